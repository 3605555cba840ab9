/-
What the functions are: checked by the kernel; printed by program.
-/
import Derived.Test.YtjnfmjeiceiciaaGreatWalk1
import Derived.Test.YtjnfmjeiceiciaaGreatFunP0
namespace Go.Proofs.YtjnfmjeiceiciaaGreat
open X
set_option linter.unusedVariables false
set_option linter.unusedSimpArgs false
set_option maxRecDepth 100000
open Go Go.RowKit Go.Shelf
def sl01Fold.tb (N : Nat) : Tabs := ⟨tt, fun a b c => look3 a b c [], fun a b => look2 a b []⟩
def sl01Fold.S (N : Nat) : Sig := ⟨sl01Fold.P, sl01Fold.R, false, false, [], false, sl01Fold.F N⟩
theorem sl01Fold.eq (N : Nat) (x : sl01Fold.P.D) : topV (sl01Fold.tb N) 0 Tryz.f116 [.d] sl01Fold.P sl01Fold.R false false [] x = sl01Fold.T N x := by kernel_rfl
theorem sl01Fold.ok (N : Nat) : Sound Tryz.prog 116 [.d] (sl01Fold.S N) := by
  have hs : SigsOK Tryz.prog (sl01Fold.tb N) := sigs_of _ rfl trivial
  have g0 : Goods Tryz.prog (sl01Fold.tb N) Tryz.f116 [] := goods_nil
  exact ok_of tabOK mixed rfl hs Tryz.func116 g0 (by kernel_rfl) rfl (sl01Fold.eq N) (fun _ => rfl)
def sPutNum.i0_0 : Tmpl := ⟨1, 25, [3, 4], [.d none (.int .u64), .row 1], [.dead, .row none 5 (.int .u8)]⟩
def sPutNum.o0_0 : Tmpl := ⟨1, 25, [3, 4], [.d none (.int .u64), .row 1], [.dead, .row none 5 (.int .u8)]⟩
def sPutNum.r0_0 : Tmpl := ⟨0, 0, [], [.d (some 9999) .unit], []⟩
def sPutNum.G0_0 (N : Nat) : Frag := ⟨sPutNum.i0_0, sPutNum.o0_0, sPutNum.r0_0, sPutNum.C0_0, sPutNum.M0_0, sPutNum.O0_0, sPutNum.Q0_0, sPutNum.L0_0 N⟩
def sPutNum.tb (N : Nat) : Tabs := ⟨tt, fun a b c => look3 a b c [(0, 1, 1, CE.sig 116 [.d] (sl01Fold.S N))], fun a b => look2 a b [(0, 0, sPutNum.G0_0 N)]⟩
theorem sPutNum.eq0_0 (N : Nat) (c : sPutNum.C0_0.D) (m : sPutNum.M0_0.D) : roundV (sPutNum.tb N) 0 Tryz.f59 0 sPutNum.i0_0 sPutNum.o0_0 sPutNum.r0_0 sPutNum.M0_0 sPutNum.O0_0 sPutNum.Q0_0 (unpack sPutNum.C0_0 c) m = (sPutNum.B0_0 N c m).map (withC (stays (unpack sPutNum.C0_0 c) []) (stays (unpack sPutNum.C0_0 c) []) (stays (unpack sPutNum.C0_0 c) [])) := by kernel_rfl
def sPutNum.S (N : Nat) : Sig := ⟨sPutNum.P, sPutNum.R, false, false, [], false, sPutNum.F N⟩
theorem sPutNum.eq (N : Nat) (x : sPutNum.P.D) : topV (sPutNum.tb N) 0 Tryz.f59 [.d] sPutNum.P sPutNum.R false false [] x = sPutNum.T N x := by kernel_rfl
theorem sPutNum.ok (N : Nat) : Sound Tryz.prog 59 [.d] (sPutNum.S N) := by
  have hs : SigsOK Tryz.prog (sPutNum.tb N) := sigs_of _ rfl ⟨sl01Fold.ok N, trivial⟩
  have g0 : Goods Tryz.prog (sPutNum.tb N) Tryz.f59 [] := goods_nil
  have g1 := goods_cons tabOK mixed rfl hs g0 0 (by kernel_rfl) (sPutNum.B0_0 N) N rfl (sPutNum.eq0_0 N)
  exact ok_of tabOK mixed rfl hs Tryz.func59 g1 (by kernel_rfl) rfl (sPutNum.eq N) (fun _ => rfl)
def sl18System.i0_4 : Tmpl := ⟨1, 71, [1, 3, 4, 5], [.cp 0 0, .d none .str, .d (some 0) (.int .i64), .d none (.int .i64)], [.cells [.d (some 1) T44, .d (some 2) T45, .d (some 3) T46, .d (some 4) (.int .i64), .d (some 5) T49, .d (some 6) T50, .d (some 7) T51, .d (some 8) (.int .i64)]]⟩
def sl18System.o0_4 : Tmpl := ⟨1, 71, [1, 3, 4], [.cp 0 0, .d none .str, .d (some 0) (.int .i64)], [.cells [.d (some 1) T44, .d (some 2) T45, .d (some 3) T46, .d (some 4) (.int .i64), .d (some 5) T49, .d (some 6) T50, .d (some 7) T51, .d (some 8) (.int .i64)]]⟩
def sl18System.r0_4 : Tmpl := ⟨0, 0, [], [.d (some 9999) .unit], []⟩
def sl18System.G0_4 (N : Nat) : Frag := ⟨sl18System.i0_4, sl18System.o0_4, sl18System.r0_4, sl18System.C0_4, sl18System.M0_4, sl18System.O0_4, sl18System.Q0_4, sl18System.L0_4 N⟩
def sl18System.i0_0 : Tmpl := ⟨1, 71, [1, 3, 4], [.cp 0 0, .d none .str, .d none (.int .i64)], [.cells [.d (some 0) T44, .d (some 1) T45, .d (some 2) T46, .d (some 3) (.int .i64), .d (some 4) T49, .d (some 5) T50, .d (some 6) T51, .d (some 7) (.int .i64)]]⟩
def sl18System.o0_0 : Tmpl := ⟨1, 71, [3], [.d none .str], [.dead]⟩
def sl18System.r0_0 : Tmpl := ⟨0, 0, [], [.d (some 9999) .unit], []⟩
def sl18System.G0_0 (N : Nat) : Frag := ⟨sl18System.i0_0, sl18System.o0_0, sl18System.r0_0, sl18System.C0_0, sl18System.M0_0, sl18System.O0_0, sl18System.Q0_0, sl18System.L0_0 N⟩
def sl18System.tb (N : Nat) : Tabs := ⟨tt, fun a b c => look3 a b c [(0, 1, 2, CE.sig 59 [.d] (sPutNum.S N)), (0, 5, 7, CE.sig 59 [.d] (sPutNum.S N)), (0, 5, 16, CE.sig 59 [.d] (sPutNum.S N)), (0, 9, 11, CE.sig 59 [.d] (sPutNum.S N)), (0, 9, 23, CE.sig 59 [.d] (sPutNum.S N))], fun a b => look2 a b [(0, 4, sl18System.G0_4 N), (0, 0, sl18System.G0_0 N)]⟩
theorem sl18System.eq0_4 (N : Nat) (c : sl18System.C0_4.D) (m : sl18System.M0_4.D) : roundV (sl18System.tb N) 0 Tryz.f29 2 sl18System.i0_4 sl18System.o0_4 sl18System.r0_4 sl18System.M0_4 sl18System.O0_4 sl18System.Q0_4 (unpack sl18System.C0_4 c) m = (sl18System.B0_4 N c m).map (withC (stays (unpack sl18System.C0_4 c) [0, 1, 2, 3, 4, 5, 6, 7, 8]) (stays (unpack sl18System.C0_4 c) [0, 1, 2, 3, 4, 5, 6, 7, 8]) (stays (unpack sl18System.C0_4 c) [])) := by kernel_rfl
theorem sl18System.eq0_0 (N : Nat) (c : sl18System.C0_0.D) (m : sl18System.M0_0.D) : roundV (sl18System.tb N) 0 Tryz.f29 0 sl18System.i0_0 sl18System.o0_0 sl18System.r0_0 sl18System.M0_0 sl18System.O0_0 sl18System.Q0_0 (unpack sl18System.C0_0 c) m = (sl18System.B0_0 N c m).map (withC (stays (unpack sl18System.C0_0 c) [0, 1, 2, 3, 4, 5, 6, 7]) (stays (unpack sl18System.C0_0 c) []) (stays (unpack sl18System.C0_0 c) [])) := by kernel_rfl
def sl18System.S (N : Nat) : Sig := ⟨sl18System.P, sl18System.R, false, false, [], false, sl18System.F N⟩
theorem sl18System.eq (N : Nat) (x : sl18System.P.D) : topV (sl18System.tb N) 0 Tryz.f29 [.d] sl18System.P sl18System.R false false [] x = sl18System.T N x := by kernel_rfl
theorem sl18System.ok (N : Nat) : Sound Tryz.prog 29 [.d] (sl18System.S N) := by
  have hs : SigsOK Tryz.prog (sl18System.tb N) := sigs_of _ rfl ⟨sPutNum.ok N, sPutNum.ok N, sPutNum.ok N, sPutNum.ok N, sPutNum.ok N, trivial⟩
  have g0 : Goods Tryz.prog (sl18System.tb N) Tryz.f29 [] := goods_nil
  have g1 := goods_cons tabOK mixed rfl hs g0 2 (by kernel_rfl) (sl18System.B0_4 N) N rfl (sl18System.eq0_4 N)
  have g2 := goods_cons tabOK mixed rfl hs g1 0 (by kernel_rfl) (sl18System.B0_0 N) N rfl (sl18System.eq0_0 N)
  exact ok_of tabOK mixed rfl hs Tryz.func29 g2 (by kernel_rfl) rfl (sl18System.eq N) (fun _ => rfl)
def sl13Many.i0_0 : Tmpl := ⟨1, 23, [0, 3, 5, 6], [.d (some 0) T50, .cp 0 0, .d none (.int .i64), .d none (.int .i64)], [.cells [.d (some 1) (.int .i64), .d (some 2) (.int .i64)]]⟩
def sl13Many.o0_0 : Tmpl := ⟨1, 23, [5], [.d none (.int .i64)], [.dead]⟩
def sl13Many.r0_0 : Tmpl := ⟨0, 0, [], [.d (some 9999) .unit], []⟩
def sl13Many.G0_0 (N : Nat) : Frag := ⟨sl13Many.i0_0, sl13Many.o0_0, sl13Many.r0_0, sl13Many.C0_0, sl13Many.M0_0, sl13Many.O0_0, sl13Many.Q0_0, sl13Many.L0_0 N⟩
def sl13Many.tb (N : Nat) : Tabs := ⟨tt, fun a b c => look3 a b c [], fun a b => look2 a b [(0, 0, sl13Many.G0_0 N)]⟩
theorem sl13Many.eq0_0 (N : Nat) (c : sl13Many.C0_0.D) (m : sl13Many.M0_0.D) : roundV (sl13Many.tb N) 0 Tryz.f60 0 sl13Many.i0_0 sl13Many.o0_0 sl13Many.r0_0 sl13Many.M0_0 sl13Many.O0_0 sl13Many.Q0_0 (unpack sl13Many.C0_0 c) m = (sl13Many.B0_0 N c m).map (withC (stays (unpack sl13Many.C0_0 c) [0, 1, 2]) (stays (unpack sl13Many.C0_0 c) []) (stays (unpack sl13Many.C0_0 c) [])) := by kernel_rfl
def sl13Many.S (N : Nat) : Sig := ⟨sl13Many.P, sl13Many.R, false, false, [], false, sl13Many.F N⟩
theorem sl13Many.eq (N : Nat) (x : sl13Many.P.D) : topV (sl13Many.tb N) 0 Tryz.f60 [.d, .d] sl13Many.P sl13Many.R false false [] x = sl13Many.T N x := by kernel_rfl
theorem sl13Many.ok (N : Nat) : Sound Tryz.prog 60 [.d, .d] (sl13Many.S N) := by
  have hs : SigsOK Tryz.prog (sl13Many.tb N) := sigs_of _ rfl trivial
  have g0 : Goods Tryz.prog (sl13Many.tb N) Tryz.f60 [] := goods_nil
  have g1 := goods_cons tabOK mixed rfl hs g0 0 (by kernel_rfl) (sl13Many.B0_0 N) N rfl (sl13Many.eq0_0 N)
  exact ok_of tabOK mixed rfl hs Tryz.func60 g1 (by kernel_rfl) rfl (sl13Many.eq N) (fun _ => rfl)
def sPutText.tb (N : Nat) : Tabs := ⟨tt, fun a b c => look3 a b c [(0, 3, 2, CE.sig 59 [.d] (sPutNum.S N))], fun a b => look2 a b []⟩
def sPutText.S (N : Nat) : Sig := ⟨sPutText.P, sPutText.R, false, false, [], false, sPutText.F N⟩
theorem sPutText.eq (N : Nat) (x : sPutText.P.D) : topV (sPutText.tb N) 0 Tryz.f62 [.d] sPutText.P sPutText.R false false [] x = sPutText.T N x := by kernel_rfl
theorem sPutText.ok (N : Nat) : Sound Tryz.prog 62 [.d] (sPutText.S N) := by
  have hs : SigsOK Tryz.prog (sPutText.tb N) := sigs_of _ rfl ⟨sPutNum.ok N, trivial⟩
  have g0 : Goods Tryz.prog (sPutText.tb N) Tryz.f62 [] := goods_nil
  exact ok_of tabOK mixed rfl hs Tryz.func62 g0 (by kernel_rfl) rfl (sPutText.eq N) (fun _ => rfl)
def sTaskBytes.i0_0 : Tmpl := ⟨1, 84, [1, 3, 4], [.cp 0 0, .d none .str, .d none (.int .i64)], [.cells [.d (some 0) (.int .i64), .d (some 1) (.int .i64), .d (some 2) (.int .i64), .d (some 3) .str, .d (some 4) (.int .i64), .d (some 5) (.int .i64), .d (some 6) (.int .i64), .d (some 7) (.int .i64), .d (some 8) (.int .i64), .d (some 9) (.int .i64), .d (some 10) (.int .i64), .d (some 11) (.int .i64), .d (some 12) (.int .i64), .d (some 13) T89]]⟩
def sTaskBytes.o0_0 : Tmpl := ⟨1, 84, [3], [.d none .str], [.dead]⟩
def sTaskBytes.r0_0 : Tmpl := ⟨0, 0, [], [.d (some 9999) .unit], []⟩
def sTaskBytes.G0_0 (N : Nat) : Frag := ⟨sTaskBytes.i0_0, sTaskBytes.o0_0, sTaskBytes.r0_0, sTaskBytes.C0_0, sTaskBytes.M0_0, sTaskBytes.O0_0, sTaskBytes.Q0_0, sTaskBytes.L0_0 N⟩
def sTaskBytes.tb (N : Nat) : Tabs := ⟨tt, fun a b c => look3 a b c [(0, 1, 1, CE.sig 117 [.d] (sTaskRight.S N)), (0, 3, 3, CE.sig 59 [.d] (sPutNum.S N)), (0, 3, 7, CE.sig 59 [.d] (sPutNum.S N)), (0, 3, 11, CE.sig 59 [.d] (sPutNum.S N)), (0, 3, 15, CE.sig 62 [.d] (sPutText.S N)), (0, 3, 19, CE.sig 59 [.d] (sPutNum.S N)), (0, 3, 23, CE.sig 59 [.d] (sPutNum.S N)), (0, 3, 27, CE.sig 59 [.d] (sPutNum.S N)), (0, 3, 32, CE.sig 59 [.d] (sPutNum.S N)), (0, 3, 37, CE.sig 59 [.d] (sPutNum.S N)), (0, 3, 41, CE.sig 59 [.d] (sPutNum.S N)), (0, 3, 45, CE.sig 59 [.d] (sPutNum.S N)), (0, 3, 49, CE.sig 59 [.d] (sPutNum.S N)), (0, 3, 53, CE.sig 59 [.d] (sPutNum.S N)), (0, 3, 58, CE.sig 59 [.d] (sPutNum.S N)), (0, 7, 6, CE.sig 59 [.d] (sPutNum.S N))], fun a b => look2 a b [(0, 0, sTaskBytes.G0_0 N)]⟩
theorem sTaskBytes.eq0_0 (N : Nat) (c : sTaskBytes.C0_0.D) (m : sTaskBytes.M0_0.D) : roundV (sTaskBytes.tb N) 0 Tryz.f61 0 sTaskBytes.i0_0 sTaskBytes.o0_0 sTaskBytes.r0_0 sTaskBytes.M0_0 sTaskBytes.O0_0 sTaskBytes.Q0_0 (unpack sTaskBytes.C0_0 c) m = (sTaskBytes.B0_0 N c m).map (withC (stays (unpack sTaskBytes.C0_0 c) [0, 1, 2, 3, 4, 5, 6, 7, 8, 9, 10, 11, 12, 13]) (stays (unpack sTaskBytes.C0_0 c) []) (stays (unpack sTaskBytes.C0_0 c) [])) := by kernel_rfl
def sTaskBytes.S (N : Nat) : Sig := ⟨sTaskBytes.P, sTaskBytes.R, false, false, [], false, sTaskBytes.F N⟩
theorem sTaskBytes.eq (N : Nat) (x : sTaskBytes.P.D) : topV (sTaskBytes.tb N) 0 Tryz.f61 [.d] sTaskBytes.P sTaskBytes.R false false [] x = sTaskBytes.T N x := by kernel_rfl
theorem sTaskBytes.ok (N : Nat) : Sound Tryz.prog 61 [.d] (sTaskBytes.S N) := by
  have hs : SigsOK Tryz.prog (sTaskBytes.tb N) := sigs_of _ rfl ⟨sTaskRight.ok N, sPutNum.ok N, sPutNum.ok N, sPutNum.ok N, sPutText.ok N, sPutNum.ok N, sPutNum.ok N, sPutNum.ok N, sPutNum.ok N, sPutNum.ok N, sPutNum.ok N, sPutNum.ok N, sPutNum.ok N, sPutNum.ok N, sPutNum.ok N, sPutNum.ok N, trivial⟩
  have g0 : Goods Tryz.prog (sTaskBytes.tb N) Tryz.f61 [] := goods_nil
  have g1 := goods_cons tabOK mixed rfl hs g0 0 (by kernel_rfl) (sTaskBytes.B0_0 N) N rfl (sTaskBytes.eq0_0 N)
  exact ok_of tabOK mixed rfl hs Tryz.func61 g1 (by kernel_rfl) rfl (sTaskBytes.eq N) (fun _ => rfl)
def sl18Nums.i0_0 : Tmpl := ⟨0, 22, [0, 3, 4], [.d (some 0) T89, .d none .str, .d none (.int .i64)], []⟩
def sl18Nums.o0_0 : Tmpl := ⟨0, 22, [3], [.d none .str], []⟩
def sl18Nums.r0_0 : Tmpl := ⟨0, 0, [], [.d (some 9999) .unit], []⟩
def sl18Nums.G0_0 (N : Nat) : Frag := ⟨sl18Nums.i0_0, sl18Nums.o0_0, sl18Nums.r0_0, sl18Nums.C0_0, sl18Nums.M0_0, sl18Nums.O0_0, sl18Nums.Q0_0, sl18Nums.L0_0 N⟩
def sl18Nums.tb (N : Nat) : Tabs := ⟨tt, fun a b c => look3 a b c [(0, 1, 2, CE.sig 59 [.d] (sPutNum.S N)), (0, 5, 5, CE.sig 59 [.d] (sPutNum.S N))], fun a b => look2 a b [(0, 0, sl18Nums.G0_0 N)]⟩
theorem sl18Nums.eq0_0 (N : Nat) (c : sl18Nums.C0_0.D) (m : sl18Nums.M0_0.D) : roundV (sl18Nums.tb N) 0 Tryz.f31 0 sl18Nums.i0_0 sl18Nums.o0_0 sl18Nums.r0_0 sl18Nums.M0_0 sl18Nums.O0_0 sl18Nums.Q0_0 (unpack sl18Nums.C0_0 c) m = (sl18Nums.B0_0 N c m).map (withC (stays (unpack sl18Nums.C0_0 c) [0]) (stays (unpack sl18Nums.C0_0 c) []) (stays (unpack sl18Nums.C0_0 c) [])) := by kernel_rfl
def sl18Nums.S (N : Nat) : Sig := ⟨sl18Nums.P, sl18Nums.R, false, false, [], false, sl18Nums.F N⟩
theorem sl18Nums.eq (N : Nat) (x : sl18Nums.P.D) : topV (sl18Nums.tb N) 0 Tryz.f31 [.d] sl18Nums.P sl18Nums.R false false [] x = sl18Nums.T N x := by kernel_rfl
theorem sl18Nums.ok (N : Nat) : Sound Tryz.prog 31 [.d] (sl18Nums.S N) := by
  have hs : SigsOK Tryz.prog (sl18Nums.tb N) := sigs_of _ rfl ⟨sPutNum.ok N, sPutNum.ok N, trivial⟩
  have g0 : Goods Tryz.prog (sl18Nums.tb N) Tryz.f31 [] := goods_nil
  have g1 := goods_cons tabOK mixed rfl hs g0 0 (by kernel_rfl) (sl18Nums.B0_0 N) N rfl (sl18Nums.eq0_0 N)
  exact ok_of tabOK mixed rfl hs Tryz.func31 g1 (by kernel_rfl) rfl (sl18Nums.eq N) (fun _ => rfl)
def sl18Part.i0_0 : Tmpl := ⟨3, 166, [2, 3, 5, 6, 7], [.cp 0 0, .cp 1 0, .cp 2 0, .d none .str, .d none (.int .i64)], [.cells [.d (some 0) T44, .d (some 1) T45, .d (some 2) T46, .d (some 3) (.int .i64), .d (some 4) T49, .d (some 5) T50, .d (some 6) T51, .d (some 7) (.int .i64), .d (some 8) T54], .cells [.d (some 9) (.int .i64), .d (some 10) (.int .i64)], .cells [.d (some 11) T44, .d (some 12) T45, .d (some 13) T46, .d (some 14) (.int .i64), .d (some 15) T49, .d (some 16) T50, .d (some 17) T51, .d (some 18) (.int .i64)]]⟩
def sl18Part.o0_0 : Tmpl := ⟨3, 166, [2, 3, 5, 6], [.cp 0 0, .cp 1 0, .cp 2 0, .d none .str], [.cells [.d (some 0) T44, .d (some 1) T45, .d (some 2) T46, .d (some 3) (.int .i64), .d (some 4) T49, .d (some 5) T50, .d (some 6) T51, .d (some 7) (.int .i64), .d (some 8) T54], .cells [.d (some 9) (.int .i64), .d (some 10) (.int .i64)], .cells [.d (some 11) T44, .d (some 12) T45, .d (some 13) T46, .d (some 14) (.int .i64), .d (some 15) T49, .d (some 16) T50, .d (some 17) T51, .d (some 18) (.int .i64)]]⟩
def sl18Part.r0_0 : Tmpl := ⟨0, 0, [], [.d (some 9999) .unit], []⟩
def sl18Part.G0_0 (N : Nat) : Frag := ⟨sl18Part.i0_0, sl18Part.o0_0, sl18Part.r0_0, sl18Part.C0_0, sl18Part.M0_0, sl18Part.O0_0, sl18Part.Q0_0, sl18Part.L0_0 N⟩
def sl18Part.i0_4 : Tmpl := ⟨3, 166, [2, 3, 5, 6, 8, 9, 10], [.cp 0 0, .cp 1 0, .cp 2 0, .d (some 0) .str, .d none (.int .i64), .d none .str, .d none (.int .i64)], [.cells [.d (some 1) T44, .d (some 2) T45, .d (some 3) T46, .d (some 4) (.int .i64), .d (some 5) T49, .d (some 6) T50, .d (some 7) T51, .d (some 8) (.int .i64), .d (some 9) T54], .cells [.d (some 10) (.int .i64), .d (some 11) (.int .i64)], .cells [.d (some 12) T44, .d (some 13) T45, .d (some 14) T46, .d (some 15) (.int .i64), .d (some 16) T49, .d (some 17) T50, .d (some 18) T51, .d (some 19) (.int .i64)]]⟩
def sl18Part.o0_4 : Tmpl := ⟨3, 166, [2, 3, 5, 6, 8, 9], [.cp 0 0, .cp 1 0, .cp 2 0, .d (some 0) .str, .d none (.int .i64), .d none .str], [.cells [.d (some 1) T44, .d (some 2) T45, .d (some 3) T46, .d (some 4) (.int .i64), .d (some 5) T49, .d (some 6) T50, .d (some 7) T51, .d (some 8) (.int .i64), .d (some 9) T54], .cells [.d (some 10) (.int .i64), .d (some 11) (.int .i64)], .cells [.d (some 12) T44, .d (some 13) T45, .d (some 14) T46, .d (some 15) (.int .i64), .d (some 16) T49, .d (some 17) T50, .d (some 18) T51, .d (some 19) (.int .i64)]]⟩
def sl18Part.r0_4 : Tmpl := ⟨0, 0, [], [.d (some 9999) .unit], []⟩
def sl18Part.G0_4 (N : Nat) : Frag := ⟨sl18Part.i0_4, sl18Part.o0_4, sl18Part.r0_4, sl18Part.C0_4, sl18Part.M0_4, sl18Part.O0_4, sl18Part.Q0_4, sl18Part.L0_4 N⟩
def sl18Part.i0_12 : Tmpl := ⟨4, 166, [2, 3, 5, 6, 11, 12, 13], [.cp 0 0, .cp 1 0, .cp 2 0, .d none .str, .d (some 0) (.int .i64), .cp 3 0, .d none (.int .i64)], [.cells [.d (some 1) T44, .d (some 2) T45, .d (some 3) T46, .d (some 4) (.int .i64), .d (some 5) T49, .d (some 6) T50, .d (some 7) T51, .d (some 8) (.int .i64), .d (some 9) T54], .cells [.d (some 10) (.int .i64), .d (some 11) (.int .i64)], .cells [.d (some 12) T44, .d (some 13) T45, .d (some 14) T46, .d (some 15) (.int .i64), .d (some 16) T49, .d (some 17) T50, .d (some 18) T51, .d (some 19) (.int .i64)], .cells [.d (some 20) T89, .d (some 21) T89, .d (some 22) T90]]⟩
def sl18Part.o0_12 : Tmpl := ⟨4, 166, [2, 3, 5, 6, 11], [.cp 0 0, .cp 1 0, .cp 2 0, .d none .str, .d (some 0) (.int .i64)], [.cells [.d (some 1) T44, .d (some 2) T45, .d (some 3) T46, .d (some 4) (.int .i64), .d (some 5) T49, .d (some 6) T50, .d (some 7) T51, .d (some 8) (.int .i64), .d (some 9) T54], .cells [.d (some 10) (.int .i64), .d (some 11) (.int .i64)], .cells [.d (some 12) T44, .d (some 13) T45, .d (some 14) T46, .d (some 15) (.int .i64), .d (some 16) T49, .d (some 17) T50, .d (some 18) T51, .d (some 19) (.int .i64)], .dead]⟩
def sl18Part.r0_12 : Tmpl := ⟨0, 0, [], [.d (some 9999) .unit], []⟩
def sl18Part.G0_12 (N : Nat) : Frag := ⟨sl18Part.i0_12, sl18Part.o0_12, sl18Part.r0_12, sl18Part.C0_12, sl18Part.M0_12, sl18Part.O0_12, sl18Part.Q0_12, sl18Part.L0_12 N⟩
def sl18Part.i0_8 : Tmpl := ⟨3, 166, [2, 3, 5, 6, 11], [.cp 0 0, .cp 1 0, .cp 2 0, .d none .str, .d none (.int .i64)], [.cells [.d (some 0) T44, .d (some 1) T45, .d (some 2) T46, .d (some 3) (.int .i64), .d (some 4) T49, .d (some 5) T50, .d (some 6) T51, .d (some 7) (.int .i64), .d (some 8) T54], .cells [.d (some 9) (.int .i64), .d (some 10) (.int .i64)], .cells [.d (some 11) T44, .d (some 12) T45, .d (some 13) T46, .d (some 14) (.int .i64), .d (some 15) T49, .d (some 16) T50, .d (some 17) T51, .d (some 18) (.int .i64)]]⟩
def sl18Part.o0_8 : Tmpl := ⟨3, 166, [2, 3, 5, 6], [.cp 0 0, .cp 1 0, .cp 2 0, .d none .str], [.cells [.d (some 0) T44, .d (some 1) T45, .d (some 2) T46, .d (some 3) (.int .i64), .d (some 4) T49, .d (some 5) T50, .d (some 6) T51, .d (some 7) (.int .i64), .d (some 8) T54], .cells [.d (some 9) (.int .i64), .d (some 10) (.int .i64)], .cells [.d (some 11) T44, .d (some 12) T45, .d (some 13) T46, .d (some 14) (.int .i64), .d (some 15) T49, .d (some 16) T50, .d (some 17) T51, .d (some 18) (.int .i64)]]⟩
def sl18Part.r0_8 : Tmpl := ⟨0, 0, [], [.d (some 9999) .unit], []⟩
def sl18Part.G0_8 (N : Nat) : Frag := ⟨sl18Part.i0_8, sl18Part.o0_8, sl18Part.r0_8, sl18Part.C0_8, sl18Part.M0_8, sl18Part.O0_8, sl18Part.Q0_8, sl18Part.L0_8 N⟩
def sl18Part.i0_16 : Tmpl := ⟨3, 166, [2, 3, 5, 6, 14], [.cp 0 0, .cp 1 0, .cp 2 0, .d none .str, .d none (.int .i64)], [.cells [.d (some 0) T44, .d (some 1) T45, .d (some 2) T46, .d (some 3) (.int .i64), .d (some 4) T49, .d (some 5) T50, .d (some 6) T51, .d (some 7) (.int .i64), .d (some 8) T54], .cells [.d (some 9) (.int .i64), .d (some 10) (.int .i64)], .cells [.d (some 11) T44, .d (some 12) T45, .d (some 13) T46, .d (some 14) (.int .i64), .d (some 15) T49, .d (some 16) T50, .d (some 17) T51, .d (some 18) (.int .i64)]]⟩
def sl18Part.o0_16 : Tmpl := ⟨3, 166, [6], [.d none .str], [.dead, .dead, .dead]⟩
def sl18Part.r0_16 : Tmpl := ⟨0, 0, [], [.d (some 9999) .unit], []⟩
def sl18Part.G0_16 (N : Nat) : Frag := ⟨sl18Part.i0_16, sl18Part.o0_16, sl18Part.r0_16, sl18Part.C0_16, sl18Part.M0_16, sl18Part.O0_16, sl18Part.Q0_16, sl18Part.L0_16 N⟩
def sl18Part.tb (N : Nat) : Tabs := ⟨tt, fun a b c => look3 a b c [(0, 2, 3, CE.sig 60 [.d, .d] (sl13Many.S N)), (0, 2, 4, CE.sig 59 [.d] (sPutNum.S N)), (0, 7, 6, CE.sig 61 [.d] (sTaskBytes.S N)), (0, 15, 7, CE.sig 62 [.d] (sPutText.S N)), (0, 15, 15, CE.sig 59 [.d] (sPutNum.S N)), (0, 16, 2, CE.sig 59 [.d] (sPutNum.S N)), (0, 22, 4, CE.sig 59 [.d] (sPutNum.S N)), (0, 26, 7, CE.sig 59 [.d] (sPutNum.S N)), (0, 26, 15, CE.sig 59 [.d] (sPutNum.S N)), (0, 31, 8, CE.sig 31 [.d] (sl18Nums.S N))], fun a b => look2 a b [(0, 0, sl18Part.G0_0 N), (0, 4, sl18Part.G0_4 N), (0, 12, sl18Part.G0_12 N), (0, 8, sl18Part.G0_8 N), (0, 16, sl18Part.G0_16 N)]⟩
theorem sl18Part.eq0_0 (N : Nat) (c : sl18Part.C0_0.D) (m : sl18Part.M0_0.D) : roundV (sl18Part.tb N) 0 Tryz.f30 0 sl18Part.i0_0 sl18Part.o0_0 sl18Part.r0_0 sl18Part.M0_0 sl18Part.O0_0 sl18Part.Q0_0 (unpack sl18Part.C0_0 c) m = (sl18Part.B0_0 N c m).map (withC (stays (unpack sl18Part.C0_0 c) [0, 1, 2, 3, 4, 5, 6, 7, 8, 9, 10, 11, 12, 13, 14, 15, 16, 17, 18]) (stays (unpack sl18Part.C0_0 c) [0, 1, 2, 3, 4, 5, 6, 7, 8, 9, 10, 11, 12, 13, 14, 15, 16, 17, 18]) (stays (unpack sl18Part.C0_0 c) [])) := by kernel_rfl
theorem sl18Part.eq0_4 (N : Nat) (c : sl18Part.C0_4.D) (m : sl18Part.M0_4.D) : roundV (sl18Part.tb N) 0 Tryz.f30 2 sl18Part.i0_4 sl18Part.o0_4 sl18Part.r0_4 sl18Part.M0_4 sl18Part.O0_4 sl18Part.Q0_4 (unpack sl18Part.C0_4 c) m = (sl18Part.B0_4 N c m).map (withC (stays (unpack sl18Part.C0_4 c) [0, 1, 2, 3, 4, 5, 6, 7, 8, 9, 10, 11, 12, 13, 14, 15, 16, 17, 18, 19]) (stays (unpack sl18Part.C0_4 c) [0, 1, 2, 3, 4, 5, 6, 7, 8, 9, 10, 11, 12, 13, 14, 15, 16, 17, 18, 19]) (stays (unpack sl18Part.C0_4 c) [])) := by kernel_rfl
theorem sl18Part.eq0_12 (N : Nat) (c : sl18Part.C0_12.D) (m : sl18Part.M0_12.D) : roundV (sl18Part.tb N) 0 Tryz.f30 6 sl18Part.i0_12 sl18Part.o0_12 sl18Part.r0_12 sl18Part.M0_12 sl18Part.O0_12 sl18Part.Q0_12 (unpack sl18Part.C0_12 c) m = (sl18Part.B0_12 N c m).map (withC (stays (unpack sl18Part.C0_12 c) [0, 1, 2, 3, 4, 5, 6, 7, 8, 9, 10, 11, 12, 13, 14, 15, 16, 17, 18, 19, 20, 21, 22]) (stays (unpack sl18Part.C0_12 c) [0, 1, 2, 3, 4, 5, 6, 7, 8, 9, 10, 11, 12, 13, 14, 15, 16, 17, 18, 19]) (stays (unpack sl18Part.C0_12 c) [])) := by kernel_rfl
theorem sl18Part.eq0_8 (N : Nat) (c : sl18Part.C0_8.D) (m : sl18Part.M0_8.D) : roundV (sl18Part.tb N) 0 Tryz.f30 4 sl18Part.i0_8 sl18Part.o0_8 sl18Part.r0_8 sl18Part.M0_8 sl18Part.O0_8 sl18Part.Q0_8 (unpack sl18Part.C0_8 c) m = (sl18Part.B0_8 N c m).map (withC (stays (unpack sl18Part.C0_8 c) [0, 1, 2, 3, 4, 5, 6, 7, 8, 9, 10, 11, 12, 13, 14, 15, 16, 17, 18]) (stays (unpack sl18Part.C0_8 c) [0, 1, 2, 3, 4, 5, 6, 7, 8, 9, 10, 11, 12, 13, 14, 15, 16, 17, 18]) (stays (unpack sl18Part.C0_8 c) [])) := by kernel_rfl
theorem sl18Part.eq0_16 (N : Nat) (c : sl18Part.C0_16.D) (m : sl18Part.M0_16.D) : roundV (sl18Part.tb N) 0 Tryz.f30 8 sl18Part.i0_16 sl18Part.o0_16 sl18Part.r0_16 sl18Part.M0_16 sl18Part.O0_16 sl18Part.Q0_16 (unpack sl18Part.C0_16 c) m = (sl18Part.B0_16 N c m).map (withC (stays (unpack sl18Part.C0_16 c) [0, 1, 2, 3, 4, 5, 6, 7, 8, 9, 10, 11, 12, 13, 14, 15, 16, 17, 18]) (stays (unpack sl18Part.C0_16 c) []) (stays (unpack sl18Part.C0_16 c) [])) := by kernel_rfl
def sl18Part.S (N : Nat) : Sig := ⟨sl18Part.P, sl18Part.R, false, false, [], false, sl18Part.F N⟩
theorem sl18Part.eq (N : Nat) (x : sl18Part.P.D) : topV (sl18Part.tb N) 0 Tryz.f30 [.d, .d] sl18Part.P sl18Part.R false false [] x = sl18Part.T N x := by kernel_rfl
theorem sl18Part.ok (N : Nat) : Sound Tryz.prog 30 [.d, .d] (sl18Part.S N) := by
  have hs : SigsOK Tryz.prog (sl18Part.tb N) := sigs_of _ rfl ⟨sl13Many.ok N, sPutNum.ok N, sTaskBytes.ok N, sPutText.ok N, sPutNum.ok N, sPutNum.ok N, sPutNum.ok N, sPutNum.ok N, sPutNum.ok N, sl18Nums.ok N, trivial⟩
  have g0 : Goods Tryz.prog (sl18Part.tb N) Tryz.f30 [] := goods_nil
  have g1 := goods_cons tabOK mixed rfl hs g0 0 (by kernel_rfl) (sl18Part.B0_0 N) N rfl (sl18Part.eq0_0 N)
  have g2 := goods_cons tabOK mixed rfl hs g1 2 (by kernel_rfl) (sl18Part.B0_4 N) N rfl (sl18Part.eq0_4 N)
  have g3 := goods_cons tabOK mixed rfl hs g2 6 (by kernel_rfl) (sl18Part.B0_12 N) N rfl (sl18Part.eq0_12 N)
  have g4 := goods_cons tabOK mixed rfl hs g3 4 (by kernel_rfl) (sl18Part.B0_8 N) N rfl (sl18Part.eq0_8 N)
  have g5 := goods_cons tabOK mixed rfl hs g4 8 (by kernel_rfl) (sl18Part.B0_16 N) N rfl (sl18Part.eq0_16 N)
  exact ok_of tabOK mixed rfl hs Tryz.func30 g5 (by kernel_rfl) rfl (sl18Part.eq N) (fun _ => rfl)
def sPartOf.tb (N : Nat) : Tabs := ⟨tt, fun a b c => look3 a b c [(0, 1, 1, CE.sig 16 [.d] (sStateRight.S N)), (0, 3, 4, CE.sig 28 [.d] (sl09Labels.S N)), (0, 5, 7, CE.sig 18 [.d] (sl18Regions.S N)), (0, 8, 2, CE.sig 29 [.d] (sl18System.S N)), (0, 10, 6, CE.sig 30 [.d, .d] (sl18Part.S N)), (0, 11, 10, CE.sig 31 [.d] (sl18Nums.S N))], fun a b => look2 a b []⟩
def sPartOf.S (N : Nat) : Sig := ⟨sPartOf.P, sPartOf.R, false, false, [], false, sPartOf.F N⟩
theorem sPartOf.eq (N : Nat) (x : sPartOf.P.D) : topV (sPartOf.tb N) 0 Tryz.f11 [.d, .d] sPartOf.P sPartOf.R false false [] x = sPartOf.T N x := by kernel_rfl
theorem sPartOf.ok (N : Nat) : Sound Tryz.prog 11 [.d, .d] (sPartOf.S N) := by
  have hs : SigsOK Tryz.prog (sPartOf.tb N) := sigs_of _ rfl ⟨sStateRight.ok N, sl09Labels.ok N, sl18Regions.ok N, sl18System.ok N, sl18Part.ok N, sl18Nums.ok N, trivial⟩
  have g0 : Goods Tryz.prog (sPartOf.tb N) Tryz.f11 [] := goods_nil
  exact ok_of tabOK mixed rfl hs Tryz.func11 g0 (by kernel_rfl) rfl (sPartOf.eq N) (fun _ => rfl)
def iPutNum.i0_0 : Tmpl := ⟨1, 29, [3, 4], [.row 1, .d none (.int .u64)], [.dead, .row none 5 (.int .u8)]⟩
def iPutNum.o0_0 : Tmpl := ⟨1, 29, [3, 4], [.row 1, .d none (.int .u64)], [.dead, .row none 5 (.int .u8)]⟩
def iPutNum.r0_0 : Tmpl := ⟨0, 0, [], [.d (some 9999) .unit], []⟩
def iPutNum.G0_0 (N : Nat) : Frag := ⟨iPutNum.i0_0, iPutNum.o0_0, iPutNum.r0_0, iPutNum.C0_0, iPutNum.M0_0, iPutNum.O0_0, iPutNum.Q0_0, iPutNum.L0_0 N⟩
def iPutNum.tb (N : Nat) : Tabs := ⟨tt, fun a b c => look3 a b c [], fun a b => look2 a b [(0, 0, iPutNum.G0_0 N)]⟩
theorem iPutNum.eq0_0 (N : Nat) (c : iPutNum.C0_0.D) (m : iPutNum.M0_0.D) : roundV (iPutNum.tb N) 0 Tryz.f70 0 iPutNum.i0_0 iPutNum.o0_0 iPutNum.r0_0 iPutNum.M0_0 iPutNum.O0_0 iPutNum.Q0_0 (unpack iPutNum.C0_0 c) m = (iPutNum.B0_0 N c m).map (withC (stays (unpack iPutNum.C0_0 c) []) (stays (unpack iPutNum.C0_0 c) []) (stays (unpack iPutNum.C0_0 c) [])) := by kernel_rfl
def iPutNum.S (N : Nat) : Sig := ⟨iPutNum.P, iPutNum.R, false, false, [], false, iPutNum.F N⟩
theorem iPutNum.eq (N : Nat) (x : iPutNum.P.D) : topV (iPutNum.tb N) 0 Tryz.f70 [.d] iPutNum.P iPutNum.R false false [] x = iPutNum.T N x := by kernel_rfl
theorem iPutNum.ok (N : Nat) : Sound Tryz.prog 70 [.d] (iPutNum.S N) := by
  have hs : SigsOK Tryz.prog (iPutNum.tb N) := sigs_of _ rfl trivial
  have g0 : Goods Tryz.prog (iPutNum.tb N) Tryz.f70 [] := goods_nil
  have g1 := goods_cons tabOK mixed rfl hs g0 0 (by kernel_rfl) (iPutNum.B0_0 N) N rfl (iPutNum.eq0_0 N)
  exact ok_of tabOK mixed rfl hs Tryz.func70 g1 (by kernel_rfl) rfl (iPutNum.eq N) (fun _ => rfl)
def iputNums.i0_0 : Tmpl := ⟨0, 18, [3, 6, 7, 8], [.d none .str, .d (some 0) T89, .d (some 1) (.int .i64), .d none (.int .i64)], []⟩
def iputNums.o0_0 : Tmpl := ⟨0, 18, [3], [.d none .str], []⟩
def iputNums.r0_0 : Tmpl := ⟨0, 0, [], [.d (some 9999) .unit], []⟩
def iputNums.G0_0 (N : Nat) : Frag := ⟨iputNums.i0_0, iputNums.o0_0, iputNums.r0_0, iputNums.C0_0, iputNums.M0_0, iputNums.O0_0, iputNums.Q0_0, iputNums.L0_0 N⟩
def iputNums.tb (N : Nat) : Tabs := ⟨tt, fun a b c => look3 a b c [(0, 5, 2, CE.sig 70 [.d] (iPutNum.S N))], fun a b => look2 a b [(0, 0, iputNums.G0_0 N)]⟩
theorem iputNums.eq0_0 (N : Nat) (c : iputNums.C0_0.D) (m : iputNums.M0_0.D) : roundV (iputNums.tb N) 0 Tryz.f71 0 iputNums.i0_0 iputNums.o0_0 iputNums.r0_0 iputNums.M0_0 iputNums.O0_0 iputNums.Q0_0 (unpack iputNums.C0_0 c) m = (iputNums.B0_0 N c m).map (withC (stays (unpack iputNums.C0_0 c) [0, 1]) (stays (unpack iputNums.C0_0 c) []) (stays (unpack iputNums.C0_0 c) [])) := by kernel_rfl
def iputNums.S (N : Nat) : Sig := ⟨iputNums.P, iputNums.R, false, false, [], false, iputNums.F N⟩
theorem iputNums.eq (N : Nat) (x : iputNums.P.D) : topV (iputNums.tb N) 0 Tryz.f71 [.d] iputNums.P iputNums.R false false [] x = iputNums.T N x := by kernel_rfl
theorem iputNums.ok (N : Nat) : Sound Tryz.prog 71 [.d] (iputNums.S N) := by
  have hs : SigsOK Tryz.prog (iputNums.tb N) := sigs_of _ rfl ⟨iPutNum.ok N, trivial⟩
  have g0 : Goods Tryz.prog (iputNums.tb N) Tryz.f71 [] := goods_nil
  have g1 := goods_cons tabOK mixed rfl hs g0 0 (by kernel_rfl) (iputNums.B0_0 N) N rfl (iputNums.eq0_0 N)
  exact ok_of tabOK mixed rfl hs Tryz.func71 g1 (by kernel_rfl) rfl (iputNums.eq N) (fun _ => rfl)
def inodesPart.i0_4 : Tmpl := ⟨3, 47, [3, 14, 15, 16, 30, 31, 32], [.d none .str, .d (some 0) T49, .d (some 1) (.int .i64), .d (some 2) (.int .i64), .d (some 3) T122, .d (some 4) (.int .i64), .d none (.int .i64)], [.dead, .dead, .dead]⟩
def inodesPart.o0_4 : Tmpl := ⟨3, 47, [3, 14, 15, 16], [.d none .str, .d (some 0) T49, .d (some 1) (.int .i64), .d (some 2) (.int .i64)], [.dead, .dead, .dead]⟩
def inodesPart.r0_4 : Tmpl := ⟨0, 0, [], [.d (some 9999) .unit], []⟩
def inodesPart.G0_4 (N : Nat) : Frag := ⟨inodesPart.i0_4, inodesPart.o0_4, inodesPart.r0_4, inodesPart.C0_4, inodesPart.M0_4, inodesPart.O0_4, inodesPart.Q0_4, inodesPart.L0_4 N⟩
def inodesPart.i0_0 : Tmpl := ⟨1, 47, [3, 14, 15, 16], [.d none .str, .d (some 0) T49, .d (some 1) (.int .i64), .d none (.int .i64)], [.dead]⟩
def inodesPart.o0_0 : Tmpl := ⟨1, 47, [3], [.d none .str], [.dead]⟩
def inodesPart.r0_0 : Tmpl := ⟨0, 0, [], [.d (some 9999) .unit], []⟩
def inodesPart.G0_0 (N : Nat) : Frag := ⟨inodesPart.i0_0, inodesPart.o0_0, inodesPart.r0_0, inodesPart.C0_0, inodesPart.M0_0, inodesPart.O0_0, inodesPart.Q0_0, inodesPart.L0_0 N⟩
def inodesPart.tb (N : Nat) : Tabs := ⟨tt, fun a b c => look3 a b c [(0, 1, 3, CE.sig 70 [.d] (iPutNum.S N)), (0, 5, 7, CE.sig 71 [.d] (iputNums.S N)), (0, 9, 6, CE.sig 71 [.d] (iputNums.S N))], fun a b => look2 a b [(0, 4, inodesPart.G0_4 N), (0, 0, inodesPart.G0_0 N)]⟩
theorem inodesPart.eq0_4 (N : Nat) (c : inodesPart.C0_4.D) (m : inodesPart.M0_4.D) : roundV (inodesPart.tb N) 0 Tryz.f68 2 inodesPart.i0_4 inodesPart.o0_4 inodesPart.r0_4 inodesPart.M0_4 inodesPart.O0_4 inodesPart.Q0_4 (unpack inodesPart.C0_4 c) m = (inodesPart.B0_4 N c m).map (withC (stays (unpack inodesPart.C0_4 c) [0, 1, 2, 3, 4]) (stays (unpack inodesPart.C0_4 c) [0, 1, 2]) (stays (unpack inodesPart.C0_4 c) [])) := by kernel_rfl
theorem inodesPart.eq0_0 (N : Nat) (c : inodesPart.C0_0.D) (m : inodesPart.M0_0.D) : roundV (inodesPart.tb N) 0 Tryz.f68 0 inodesPart.i0_0 inodesPart.o0_0 inodesPart.r0_0 inodesPart.M0_0 inodesPart.O0_0 inodesPart.Q0_0 (unpack inodesPart.C0_0 c) m = (inodesPart.B0_0 N c m).map (withC (stays (unpack inodesPart.C0_0 c) [0, 1]) (stays (unpack inodesPart.C0_0 c) []) (stays (unpack inodesPart.C0_0 c) [])) := by kernel_rfl
def inodesPart.S (N : Nat) : Sig := ⟨inodesPart.P, inodesPart.R, false, false, [], false, inodesPart.F N⟩
theorem inodesPart.eq (N : Nat) (x : inodesPart.P.D) : topV (inodesPart.tb N) 0 Tryz.f68 [.d] inodesPart.P inodesPart.R false false [] x = inodesPart.T N x := by kernel_rfl
theorem inodesPart.ok (N : Nat) : Sound Tryz.prog 68 [.d] (inodesPart.S N) := by
  have hs : SigsOK Tryz.prog (inodesPart.tb N) := sigs_of _ rfl ⟨iPutNum.ok N, iputNums.ok N, iputNums.ok N, trivial⟩
  have g0 : Goods Tryz.prog (inodesPart.tb N) Tryz.f68 [] := goods_nil
  have g1 := goods_cons tabOK mixed rfl hs g0 2 (by kernel_rfl) (inodesPart.B0_4 N) N rfl (inodesPart.eq0_4 N)
  have g2 := goods_cons tabOK mixed rfl hs g1 0 (by kernel_rfl) (inodesPart.B0_0 N) N rfl (inodesPart.eq0_0 N)
  exact ok_of tabOK mixed rfl hs Tryz.func68 g2 (by kernel_rfl) rfl (inodesPart.eq N) (fun _ => rfl)
def iisLongText.tb (N : Nat) : Tabs := ⟨tt, fun a b c => look3 a b c [], fun a b => look2 a b []⟩
def iisLongText.S (N : Nat) : Sig := ⟨iisLongText.P, iisLongText.R, false, false, [], false, iisLongText.F N⟩
theorem iisLongText.eq (N : Nat) (x : iisLongText.P.D) : topV (iisLongText.tb N) 0 Tryz.f189 [.d] iisLongText.P iisLongText.R false false [] x = iisLongText.T N x := by kernel_rfl
theorem iisLongText.ok (N : Nat) : Sound Tryz.prog 189 [.d] (iisLongText.S N) := by
  have hs : SigsOK Tryz.prog (iisLongText.tb N) := sigs_of _ rfl trivial
  have g0 : Goods Tryz.prog (iisLongText.tb N) Tryz.f189 [] := goods_nil
  exact ok_of tabOK mixed rfl hs Tryz.func189 g0 (by kernel_rfl) rfl (iisLongText.eq N) (fun _ => rfl)
def iPutText.tb (N : Nat) : Tabs := ⟨tt, fun a b c => look3 a b c [(0, 1, 1, CE.sig 189 [.d] (iisLongText.S N)), (0, 3, 2, CE.sig 70 [.d] (iPutNum.S N))], fun a b => look2 a b []⟩
def iPutText.S (N : Nat) : Sig := ⟨iPutText.P, iPutText.R, false, false, [], false, iPutText.F N⟩
theorem iPutText.eq (N : Nat) (x : iPutText.P.D) : topV (iPutText.tb N) 0 Tryz.f126 [.d] iPutText.P iPutText.R false false [] x = iPutText.T N x := by kernel_rfl
theorem iPutText.ok (N : Nat) : Sound Tryz.prog 126 [.d] (iPutText.S N) := by
  have hs : SigsOK Tryz.prog (iPutText.tb N) := sigs_of _ rfl ⟨iisLongText.ok N, iPutNum.ok N, trivial⟩
  have g0 : Goods Tryz.prog (iPutText.tb N) Tryz.f126 [] := goods_nil
  exact ok_of tabOK mixed rfl hs Tryz.func126 g0 (by kernel_rfl) rfl (iPutText.eq N) (fun _ => rfl)
def iTaskBytes.tb (N : Nat) : Tabs := ⟨tt, fun a b c => look3 a b c [(0, 1, 1, CE.sig 155 [.d] (iTaskRight.S N)), (0, 3, 9, CE.sig 71 [.d] (iputNums.S N)), (0, 3, 12, CE.sig 126 [.d] (iPutText.S N)), (0, 4, 24, CE.sig 71 [.d] (iputNums.S N)), (0, 5, 5, CE.sig 71 [.d] (iputNums.S N))], fun a b => look2 a b []⟩
def iTaskBytes.S (N : Nat) : Sig := ⟨iTaskBytes.P, iTaskBytes.R, false, false, [], false, iTaskBytes.F N⟩
theorem iTaskBytes.eq (N : Nat) (x : iTaskBytes.P.D) : topV (iTaskBytes.tb N) 0 Tryz.f125 [.d] iTaskBytes.P iTaskBytes.R false false [] x = iTaskBytes.T N x := by kernel_rfl
theorem iTaskBytes.ok (N : Nat) : Sound Tryz.prog 125 [.d] (iTaskBytes.S N) := by
  have hs : SigsOK Tryz.prog (iTaskBytes.tb N) := sigs_of _ rfl ⟨iTaskRight.ok N, iputNums.ok N, iPutText.ok N, iputNums.ok N, iputNums.ok N, trivial⟩
  have g0 : Goods Tryz.prog (iTaskBytes.tb N) Tryz.f125 [] := goods_nil
  exact ok_of tabOK mixed rfl hs Tryz.func125 g0 (by kernel_rfl) rfl (iTaskBytes.eq N) (fun _ => rfl)
def ilabelPart.i0_0 : Tmpl := ⟨2, 155, [2, 3, 5, 6, 7, 8, 22, 23, 24], [.cp 0 0, .cp 1 0, .d none .str, .d none (.int .i64), .d (some 0) .str, .d (some 1) (.int .i64), .d (some 2) T50, .d (some 3) (.int .i64), .d none (.int .i64)], [.cells [.d (some 4) T44, .d (some 5) T45, .d (some 6) T46, .d (some 7) (.int .i64), .d (some 8) T49, .d (some 9) T50, .d (some 10) T51, .d (some 11) (.int .i64), .d (some 12) T54], .cells [.d (some 13) (.int .i64), .d (some 14) (.int .i64)]]⟩
def ilabelPart.o0_0 : Tmpl := ⟨2, 155, [2, 3, 5, 6, 7, 8], [.cp 0 0, .cp 1 0, .d none .str, .d none (.int .i64), .d (some 0) .str, .d (some 1) (.int .i64)], [.cells [.d (some 4) T44, .d (some 5) T45, .d (some 6) T46, .d (some 7) (.int .i64), .d (some 8) T49, .d (some 9) T50, .d (some 10) T51, .d (some 11) (.int .i64), .d (some 12) T54], .cells [.d (some 13) (.int .i64), .d (some 14) (.int .i64)]]⟩
def ilabelPart.r0_0 : Tmpl := ⟨0, 0, [], [.d (some 9999) .unit], []⟩
def ilabelPart.G0_0 (N : Nat) : Frag := ⟨ilabelPart.i0_0, ilabelPart.o0_0, ilabelPart.r0_0, ilabelPart.C0_0, ilabelPart.M0_0, ilabelPart.O0_0, ilabelPart.Q0_0, ilabelPart.L0_0 N⟩
def ilabelPart.i0_4 : Tmpl := ⟨2, 155, [2, 3, 5, 6, 7, 8, 41, 42, 43], [.cp 0 0, .cp 1 0, .d (some 0) .str, .d (some 1) (.int .i64), .d none .str, .d none (.int .i64), .d (some 2) T51, .d (some 3) (.int .i64), .d none (.int .i64)], [.cells [.d (some 4) T44, .d (some 5) T45, .d (some 6) T46, .d (some 7) (.int .i64), .d (some 8) T49, .d (some 9) T50, .d (some 10) T51, .d (some 11) (.int .i64), .d (some 12) T54], .cells [.d (some 13) (.int .i64), .d (some 14) (.int .i64)]]⟩
def ilabelPart.o0_4 : Tmpl := ⟨2, 155, [2, 3, 5, 6, 7, 8], [.cp 0 0, .cp 1 0, .d (some 0) .str, .d (some 1) (.int .i64), .d none .str, .d none (.int .i64)], [.cells [.d (some 4) T44, .d (some 5) T45, .d (some 6) T46, .d (some 7) (.int .i64), .d (some 8) T49, .d (some 9) T50, .d (some 10) T51, .d (some 11) (.int .i64), .d (some 12) T54], .cells [.d (some 13) (.int .i64), .d (some 14) (.int .i64)]]⟩
def ilabelPart.r0_4 : Tmpl := ⟨0, 0, [], [.d (some 9999) .unit], []⟩
def ilabelPart.G0_4 (N : Nat) : Frag := ⟨ilabelPart.i0_4, ilabelPart.o0_4, ilabelPart.r0_4, ilabelPart.C0_4, ilabelPart.M0_4, ilabelPart.O0_4, ilabelPart.Q0_4, ilabelPart.L0_4 N⟩
def ilabelPart.i0_12 : Tmpl := ⟨3, 155, [2, 3, 13, 75, 76, 77, 103, 104, 105], [.cp 0 0, .cp 1 0, .d none .str, .d (some 0) T45, .d (some 1) (.int .i64), .d (some 2) (.int .i64), .d (some 3) T90, .d (some 4) (.int .i64), .d none (.int .i64)], [.cells [.d (some 5) T44, .d (some 6) T45, .d (some 7) T46, .d (some 8) (.int .i64), .d (some 9) T49, .d (some 10) T50, .d (some 11) T51, .d (some 12) (.int .i64), .d (some 13) T54], .cells [.d (some 14) (.int .i64), .d (some 15) (.int .i64)], .dead]⟩
def ilabelPart.o0_12 : Tmpl := ⟨3, 155, [2, 3, 13, 75, 76, 77], [.cp 0 0, .cp 1 0, .d none .str, .d (some 0) T45, .d (some 1) (.int .i64), .d (some 2) (.int .i64)], [.cells [.d (some 5) T44, .d (some 6) T45, .d (some 7) T46, .d (some 8) (.int .i64), .d (some 9) T49, .d (some 10) T50, .d (some 11) T51, .d (some 12) (.int .i64), .d (some 13) T54], .cells [.d (some 14) (.int .i64), .d (some 15) (.int .i64)], .dead]⟩
def ilabelPart.r0_12 : Tmpl := ⟨0, 0, [], [.d (some 9999) .unit], []⟩
def ilabelPart.G0_12 (N : Nat) : Frag := ⟨ilabelPart.i0_12, ilabelPart.o0_12, ilabelPart.r0_12, ilabelPart.C0_12, ilabelPart.M0_12, ilabelPart.O0_12, ilabelPart.Q0_12, ilabelPart.L0_12 N⟩
def ilabelPart.i0_8 : Tmpl := ⟨2, 155, [2, 3, 13, 75, 76, 77], [.cp 0 0, .cp 1 0, .d none .str, .d (some 0) T45, .d (some 1) (.int .i64), .d none (.int .i64)], [.cells [.d (some 2) T44, .d (some 3) T45, .d (some 4) T46, .d (some 5) (.int .i64), .d (some 6) T49, .d (some 7) T50, .d (some 8) T51, .d (some 9) (.int .i64), .d (some 10) T54], .cells [.d (some 11) (.int .i64), .d (some 12) (.int .i64)]]⟩
def ilabelPart.o0_8 : Tmpl := ⟨2, 155, [2, 3, 13], [.cp 0 0, .cp 1 0, .d none .str], [.cells [.d (some 2) T44, .d (some 3) T45, .d (some 4) T46, .d (some 5) (.int .i64), .d (some 6) T49, .d (some 7) T50, .d (some 8) T51, .d (some 9) (.int .i64), .d (some 10) T54], .cells [.d (some 11) (.int .i64), .d (some 12) (.int .i64)]]⟩
def ilabelPart.r0_8 : Tmpl := ⟨0, 0, [], [.d (some 9999) .unit], []⟩
def ilabelPart.G0_8 (N : Nat) : Frag := ⟨ilabelPart.i0_8, ilabelPart.o0_8, ilabelPart.r0_8, ilabelPart.C0_8, ilabelPart.M0_8, ilabelPart.O0_8, ilabelPart.Q0_8, ilabelPart.L0_8 N⟩
def ilabelPart.i0_16 : Tmpl := ⟨2, 155, [2, 3, 13, 122, 123, 124], [.cp 0 0, .cp 1 0, .d none .str, .d (some 0) T45, .d (some 1) (.int .i64), .d none (.int .i64)], [.cells [.d (some 2) T44, .d (some 3) T45, .d (some 4) T46, .d (some 5) (.int .i64), .d (some 6) T49, .d (some 7) T50, .d (some 8) T51, .d (some 9) (.int .i64), .d (some 10) T54], .cells [.d (some 11) (.int .i64), .d (some 12) (.int .i64)]]⟩
def ilabelPart.o0_16 : Tmpl := ⟨2, 155, [13], [.d none .str], [.dead, .dead]⟩
def ilabelPart.r0_16 : Tmpl := ⟨0, 0, [], [.d (some 9999) .unit], []⟩
def ilabelPart.G0_16 (N : Nat) : Frag := ⟨ilabelPart.i0_16, ilabelPart.o0_16, ilabelPart.r0_16, ilabelPart.C0_16, ilabelPart.M0_16, ilabelPart.O0_16, ilabelPart.Q0_16, ilabelPart.L0_16 N⟩
def ilabelPart.tb (N : Nat) : Tabs := ⟨tt, fun a b c => look3 a b c [(0, 6, 2, CE.sig 125 [.d] (iTaskBytes.S N)), (0, 13, 3, CE.sig 126 [.d] (iPutText.S N)), (0, 13, 6, CE.sig 70 [.d] (iPutNum.S N)), (0, 16, 1, CE.sig 70 [.d] (iPutNum.S N)), (0, 16, 5, CE.sig 70 [.d] (iPutNum.S N)), (0, 21, 9, CE.sig 70 [.d] (iPutNum.S N)), (0, 25, 6, CE.sig 71 [.d] (iputNums.S N)), (0, 32, 9, CE.sig 70 [.d] (iPutNum.S N)), (0, 32, 17, CE.sig 71 [.d] (iputNums.S N))], fun a b => look2 a b [(0, 0, ilabelPart.G0_0 N), (0, 4, ilabelPart.G0_4 N), (0, 12, ilabelPart.G0_12 N), (0, 8, ilabelPart.G0_8 N), (0, 16, ilabelPart.G0_16 N)]⟩
theorem ilabelPart.eq0_0 (N : Nat) (c : ilabelPart.C0_0.D) (m : ilabelPart.M0_0.D) : roundV (ilabelPart.tb N) 0 Tryz.f69 0 ilabelPart.i0_0 ilabelPart.o0_0 ilabelPart.r0_0 ilabelPart.M0_0 ilabelPart.O0_0 ilabelPart.Q0_0 (unpack ilabelPart.C0_0 c) m = (ilabelPart.B0_0 N c m).map (withC (stays (unpack ilabelPart.C0_0 c) [0, 1, 2, 3, 4, 5, 6, 7, 8, 9, 10, 11, 12, 13, 14]) (stays (unpack ilabelPart.C0_0 c) [0, 1, 4, 5, 6, 7, 8, 9, 10, 11, 12, 13, 14]) (stays (unpack ilabelPart.C0_0 c) [])) := by kernel_rfl
theorem ilabelPart.eq0_4 (N : Nat) (c : ilabelPart.C0_4.D) (m : ilabelPart.M0_4.D) : roundV (ilabelPart.tb N) 0 Tryz.f69 2 ilabelPart.i0_4 ilabelPart.o0_4 ilabelPart.r0_4 ilabelPart.M0_4 ilabelPart.O0_4 ilabelPart.Q0_4 (unpack ilabelPart.C0_4 c) m = (ilabelPart.B0_4 N c m).map (withC (stays (unpack ilabelPart.C0_4 c) [0, 1, 2, 3, 4, 5, 6, 7, 8, 9, 10, 11, 12, 13, 14]) (stays (unpack ilabelPart.C0_4 c) [0, 1, 4, 5, 6, 7, 8, 9, 10, 11, 12, 13, 14]) (stays (unpack ilabelPart.C0_4 c) [])) := by kernel_rfl
theorem ilabelPart.eq0_12 (N : Nat) (c : ilabelPart.C0_12.D) (m : ilabelPart.M0_12.D) : roundV (ilabelPart.tb N) 0 Tryz.f69 6 ilabelPart.i0_12 ilabelPart.o0_12 ilabelPart.r0_12 ilabelPart.M0_12 ilabelPart.O0_12 ilabelPart.Q0_12 (unpack ilabelPart.C0_12 c) m = (ilabelPart.B0_12 N c m).map (withC (stays (unpack ilabelPart.C0_12 c) [0, 1, 2, 3, 4, 5, 6, 7, 8, 9, 10, 11, 12, 13, 14, 15]) (stays (unpack ilabelPart.C0_12 c) [0, 1, 2, 5, 6, 7, 8, 9, 10, 11, 12, 13, 14, 15]) (stays (unpack ilabelPart.C0_12 c) [])) := by kernel_rfl
theorem ilabelPart.eq0_8 (N : Nat) (c : ilabelPart.C0_8.D) (m : ilabelPart.M0_8.D) : roundV (ilabelPart.tb N) 0 Tryz.f69 4 ilabelPart.i0_8 ilabelPart.o0_8 ilabelPart.r0_8 ilabelPart.M0_8 ilabelPart.O0_8 ilabelPart.Q0_8 (unpack ilabelPart.C0_8 c) m = (ilabelPart.B0_8 N c m).map (withC (stays (unpack ilabelPart.C0_8 c) [0, 1, 2, 3, 4, 5, 6, 7, 8, 9, 10, 11, 12]) (stays (unpack ilabelPart.C0_8 c) [2, 3, 4, 5, 6, 7, 8, 9, 10, 11, 12]) (stays (unpack ilabelPart.C0_8 c) [])) := by kernel_rfl
theorem ilabelPart.eq0_16 (N : Nat) (c : ilabelPart.C0_16.D) (m : ilabelPart.M0_16.D) : roundV (ilabelPart.tb N) 0 Tryz.f69 8 ilabelPart.i0_16 ilabelPart.o0_16 ilabelPart.r0_16 ilabelPart.M0_16 ilabelPart.O0_16 ilabelPart.Q0_16 (unpack ilabelPart.C0_16 c) m = (ilabelPart.B0_16 N c m).map (withC (stays (unpack ilabelPart.C0_16 c) [0, 1, 2, 3, 4, 5, 6, 7, 8, 9, 10, 11, 12]) (stays (unpack ilabelPart.C0_16 c) []) (stays (unpack ilabelPart.C0_16 c) [])) := by kernel_rfl
def ilabelPart.S (N : Nat) : Sig := ⟨ilabelPart.P, ilabelPart.R, false, false, [], false, ilabelPart.F N⟩
theorem ilabelPart.eq (N : Nat) (x : ilabelPart.P.D) : topV (ilabelPart.tb N) 0 Tryz.f69 [.d, .d] ilabelPart.P ilabelPart.R false false [] x = ilabelPart.T N x := by kernel_rfl
theorem ilabelPart.ok (N : Nat) : Sound Tryz.prog 69 [.d, .d] (ilabelPart.S N) := by
  have hs : SigsOK Tryz.prog (ilabelPart.tb N) := sigs_of _ rfl ⟨iTaskBytes.ok N, iPutText.ok N, iPutNum.ok N, iPutNum.ok N, iPutNum.ok N, iPutNum.ok N, iputNums.ok N, iPutNum.ok N, iputNums.ok N, trivial⟩
  have g0 : Goods Tryz.prog (ilabelPart.tb N) Tryz.f69 [] := goods_nil
  have g1 := goods_cons tabOK mixed rfl hs g0 0 (by kernel_rfl) (ilabelPart.B0_0 N) N rfl (ilabelPart.eq0_0 N)
  have g2 := goods_cons tabOK mixed rfl hs g1 2 (by kernel_rfl) (ilabelPart.B0_4 N) N rfl (ilabelPart.eq0_4 N)
  have g3 := goods_cons tabOK mixed rfl hs g2 6 (by kernel_rfl) (ilabelPart.B0_12 N) N rfl (ilabelPart.eq0_12 N)
  have g4 := goods_cons tabOK mixed rfl hs g3 4 (by kernel_rfl) (ilabelPart.B0_8 N) N rfl (ilabelPart.eq0_8 N)
  have g5 := goods_cons tabOK mixed rfl hs g4 8 (by kernel_rfl) (ilabelPart.B0_16 N) N rfl (ilabelPart.eq0_16 N)
  exact ok_of tabOK mixed rfl hs Tryz.func69 g5 (by kernel_rfl) rfl (ilabelPart.eq N) (fun _ => rfl)
def ipartOf.tb (N : Nat) : Tabs := ⟨tt, fun a b c => look3 a b c [(0, 1, 3, CE.sig 51 [.d] (iConfig_labels.S N)), (0, 3, 1, CE.sig 68 [.d] (inodesPart.S N)), (0, 5, 6, CE.sig 69 [.d, .d] (ilabelPart.S N)), (0, 7, 2, CE.sig 70 [.d] (iPutNum.S N)), (0, 7, 4, CE.sig 71 [.d] (iputNums.S N))], fun a b => look2 a b []⟩
def ipartOf.S (N : Nat) : Sig := ⟨ipartOf.P, ipartOf.R, false, false, [], false, ipartOf.F N⟩
theorem ipartOf.eq (N : Nat) (x : ipartOf.P.D) : topV (ipartOf.tb N) 0 Tryz.f35 [.d, .d] ipartOf.P ipartOf.R false false [] x = ipartOf.T N x := by kernel_rfl
theorem ipartOf.ok (N : Nat) : Sound Tryz.prog 35 [.d, .d] (ipartOf.S N) := by
  have hs : SigsOK Tryz.prog (ipartOf.tb N) := sigs_of _ rfl ⟨iConfig_labels.ok N, inodesPart.ok N, ilabelPart.ok N, iPutNum.ok N, iputNums.ok N, trivial⟩
  have g0 : Goods Tryz.prog (ipartOf.tb N) Tryz.f35 [] := goods_nil
  exact ok_of tabOK mixed rfl hs Tryz.func35 g0 (by kernel_rfl) rfl (ipartOf.eq N) (fun _ => rfl)
def iPartOf.tb (N : Nat) : Tabs := ⟨tt, fun a b c => look3 a b c [(0, 1, 1, CE.sig 21 [.d] (iStateRight.S N)), (0, 1, 8, CE.sig 23 [.d] (iregionsOf.S N)), (0, 1, 10, CE.sig 34 [.d, .d, .d] (iwithin.S N)), (0, 3, 2, CE.sig 35 [.d, .d] (ipartOf.S N))], fun a b => look2 a b []⟩
def iPartOf.S (N : Nat) : Sig := ⟨iPartOf.P, iPartOf.R, false, false, [], false, iPartOf.F N⟩
theorem iPartOf.eq (N : Nat) (x : iPartOf.P.D) : topV (iPartOf.tb N) 0 Tryz.f13 [.d, .d] iPartOf.P iPartOf.R false false [] x = iPartOf.T N x := by kernel_rfl
theorem iPartOf.ok (N : Nat) : Sound Tryz.prog 13 [.d, .d] (iPartOf.S N) := by
  have hs : SigsOK Tryz.prog (iPartOf.tb N) := sigs_of _ rfl ⟨iStateRight.ok N, iregionsOf.ok N, iwithin.ok N, ipartOf.ok N, trivial⟩
  have g0 : Goods Tryz.prog (iPartOf.tb N) Tryz.f13 [] := goods_nil
  exact ok_of tabOK mixed rfl hs Tryz.func13 g0 (by kernel_rfl) rfl (iPartOf.eq N) (fun _ => rfl)
def lFnExactPartOf.tb (N : Nat) : Tabs := ⟨tt, fun a b c => look3 a b c [(0, 2, 2, CE.sig 10 [.d, .d] (lszState.S N)), (0, 5, 1, CE.sig 12 [.d] (ltoState.S N)), (0, 5, 3, CE.sig 11 [.d, .d] (sPartOf.S N)), (0, 6, 1, CE.sig 12 [.d] (ltoState.S N)), (0, 7, 2, CE.sig 13 [.d, .d] (iPartOf.S N)), (0, 10, 2, CE.sig 12 [.d] (ltoState.S N)), (0, 10, 3, CE.sig 14 [.d, .d] (leqState.S N))], fun a b => look2 a b []⟩
def lFnExactPartOf.S (N : Nat) : Sig := ⟨lFnExactPartOf.P, lFnExactPartOf.R, false, false, [], false, lFnExactPartOf.F N⟩
theorem lFnExactPartOf.eq (N : Nat) (x : lFnExactPartOf.P.D) : topV (lFnExactPartOf.tb N) 0 Tryz.f4 [.d, .d] lFnExactPartOf.P lFnExactPartOf.R false false [] x = lFnExactPartOf.T N x := by kernel_rfl
theorem lFnExactPartOf.ok (N : Nat) : Sound Tryz.prog 4 [.d, .d] (lFnExactPartOf.S N) := by
  have hs : SigsOK Tryz.prog (lFnExactPartOf.tb N) := sigs_of _ rfl ⟨lszState.ok N, ltoState.ok N, sPartOf.ok N, ltoState.ok N, iPartOf.ok N, ltoState.ok N, leqState.ok N, trivial⟩
  have g0 : Goods Tryz.prog (lFnExactPartOf.tb N) Tryz.f4 [] := goods_nil
  exact ok_of tabOK mixed rfl hs Tryz.func4 g0 (by kernel_rfl) rfl (lFnExactPartOf.eq N) (fun _ => rfl)
end Go.Proofs.YtjnfmjeiceiciaaGreat
