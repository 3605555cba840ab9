/-
What the functions are: checked by the kernel; printed by program.
-/
import Derived.Test.YtjnfmjeiceiciaaGreatWalkA
import Derived.Test.YtjnfmjeiceiciaaGreatFun0
namespace Go.Proofs.YtjnfmjeiceiciaaGreat
open X
set_option linter.unusedVariables false
set_option linter.unusedSimpArgs false
set_option maxRecDepth 100000
open Go Go.RowKit Go.Shelf
def cmpisNaN_int64.tb (N : Nat) : Tabs := ⟨tt, fun a b c => look3 a b c [], fun a b => look2 a b []⟩
def cmpisNaN_int64.S (N : Nat) : Sig := ⟨cmpisNaN_int64.P, cmpisNaN_int64.R, false, false, [], false, cmpisNaN_int64.F N⟩
theorem cmpisNaN_int64.eq (N : Nat) (x : cmpisNaN_int64.P.D) : topV (cmpisNaN_int64.tb N) 0 Tryz.f226 [.d] cmpisNaN_int64.P cmpisNaN_int64.R false false [] x = cmpisNaN_int64.T N x := by kernel_rfl
theorem cmpisNaN_int64.ok (N : Nat) : Sound Tryz.prog 226 [.d] (cmpisNaN_int64.S N) := by
  have hs : SigsOK Tryz.prog (cmpisNaN_int64.tb N) := sigs_of _ rfl trivial
  have g0 : Goods Tryz.prog (cmpisNaN_int64.tb N) Tryz.f226 [] := goods_nil
  exact ok_of tabOK mixed rfl hs Tryz.func226 g0 (by kernel_rfl) rfl (cmpisNaN_int64.eq N) (fun _ => rfl)
def cmpCompare_int64.tb (N : Nat) : Tabs := ⟨tt, fun a b c => look3 a b c [(0, 1, 1, CE.sig 226 [.d] (cmpisNaN_int64.S N)), (0, 2, 1, CE.sig 226 [.d] (cmpisNaN_int64.S N))], fun a b => look2 a b []⟩
def cmpCompare_int64.S (N : Nat) : Sig := ⟨cmpCompare_int64.P, cmpCompare_int64.R, false, false, [], false, cmpCompare_int64.F N⟩
theorem cmpCompare_int64.eq (N : Nat) (x : cmpCompare_int64.P.D) : topV (cmpCompare_int64.tb N) 0 Tryz.f175 [.d, .d] cmpCompare_int64.P cmpCompare_int64.R false false [] x = cmpCompare_int64.T N x := by kernel_rfl
theorem cmpCompare_int64.ok (N : Nat) : Sound Tryz.prog 175 [.d, .d] (cmpCompare_int64.S N) := by
  have hs : SigsOK Tryz.prog (cmpCompare_int64.tb N) := sigs_of _ rfl ⟨cmpisNaN_int64.ok N, cmpisNaN_int64.ok N, trivial⟩
  have g0 : Goods Tryz.prog (cmpCompare_int64.tb N) Tryz.f175 [] := goods_nil
  exact ok_of tabOK mixed rfl hs Tryz.func175 g0 (by kernel_rfl) rfl (cmpCompare_int64.eq N) (fun _ => rfl)
def cmpOr_int.i0_0 : Tmpl := ⟨0, 18, [3, 6, 7, 8], [.d (some 0) (.int .i64), .d (some 1) T282, .d (some 2) (.int .i64), .d none (.int .i64)], []⟩
def cmpOr_int.o0_0 : Tmpl := ⟨0, 18, [3], [.d (some 0) (.int .i64)], []⟩
def cmpOr_int.r0_0 : Tmpl := ⟨0, 18, [2], [.d none (.int .i64)], []⟩
def cmpOr_int.G0_0 (N : Nat) : Frag := ⟨cmpOr_int.i0_0, cmpOr_int.o0_0, cmpOr_int.r0_0, cmpOr_int.C0_0, cmpOr_int.M0_0, cmpOr_int.O0_0, cmpOr_int.Q0_0, cmpOr_int.L0_0 N⟩
def cmpOr_int.tb (N : Nat) : Tabs := ⟨tt, fun a b c => look3 a b c [], fun a b => look2 a b [(0, 0, cmpOr_int.G0_0 N)]⟩
theorem cmpOr_int.eq0_0 (N : Nat) (c : cmpOr_int.C0_0.D) (m : cmpOr_int.M0_0.D) : roundV (cmpOr_int.tb N) 0 Tryz.f174 0 cmpOr_int.i0_0 cmpOr_int.o0_0 cmpOr_int.r0_0 cmpOr_int.M0_0 cmpOr_int.O0_0 cmpOr_int.Q0_0 (unpack cmpOr_int.C0_0 c) m = (cmpOr_int.B0_0 N c m).map (withC (stays (unpack cmpOr_int.C0_0 c) [0, 1, 2]) (stays (unpack cmpOr_int.C0_0 c) [0]) (stays (unpack cmpOr_int.C0_0 c) [])) := by kernel_rfl
def cmpOr_int.S (N : Nat) : Sig := ⟨cmpOr_int.P, cmpOr_int.R, false, false, [], false, cmpOr_int.F N⟩
theorem cmpOr_int.eq (N : Nat) (x : cmpOr_int.P.D) : topV (cmpOr_int.tb N) 0 Tryz.f174 [.d] cmpOr_int.P cmpOr_int.R false false [] x = cmpOr_int.T N x := by kernel_rfl
theorem cmpOr_int.ok (N : Nat) : Sound Tryz.prog 174 [.d] (cmpOr_int.S N) := by
  have hs : SigsOK Tryz.prog (cmpOr_int.tb N) := sigs_of _ rfl trivial
  have g0 : Goods Tryz.prog (cmpOr_int.tb N) Tryz.f174 [] := goods_nil
  have g1 := goods_cons tabOK mixed rfl hs g0 0 (by kernel_rfl) (cmpOr_int.B0_0 N) N rfl (cmpOr_int.eq0_0 N)
  exact ok_of tabOK mixed rfl hs Tryz.func174 g1 (by kernel_rfl) rfl (cmpOr_int.eq N) (fun _ => rfl)
def icompareLabels.tb (N : Nat) : Tabs := ⟨tt, fun a b c => look3 a b c [(0, 1, 4, CE.sig 175 [.d, .d] (cmpCompare_int64.S N)), (0, 1, 9, CE.sig 175 [.d, .d] (cmpCompare_int64.S N)), (0, 1, 11, CE.sig 174 [.d] (cmpOr_int.S N))], fun a b => look2 a b []⟩
def icompareLabels.S (N : Nat) : Sig := ⟨icompareLabels.P, icompareLabels.R, false, false, [], false, icompareLabels.F N⟩
theorem icompareLabels.eq (N : Nat) (x : icompareLabels.P.D) : topV (icompareLabels.tb N) 0 Tryz.f106 [.d, .d] icompareLabels.P icompareLabels.R false false [] x = icompareLabels.T N x := by kernel_rfl
theorem icompareLabels.ok (N : Nat) : Sound Tryz.prog 106 [.d, .d] (icompareLabels.S N) := by
  have hs : SigsOK Tryz.prog (icompareLabels.tb N) := sigs_of _ rfl ⟨cmpCompare_int64.ok N, cmpCompare_int64.ok N, cmpOr_int.ok N, trivial⟩
  have g0 : Goods Tryz.prog (icompareLabels.tb N) Tryz.f106 [] := goods_nil
  exact ok_of tabOK mixed rfl hs Tryz.func106 g0 (by kernel_rfl) rfl (icompareLabels.eq N) (fun _ => rfl)
def slSortFunc_icompareLabels_w.S (N : Nat) : Sig := ⟨slSortFunc_icompareLabels_w.P, slSortFunc_icompareLabels_w.R, false, true, [true], false, slSortFunc_icompareLabels_w.F N⟩
def sortLayLab_ren : Go.Shelf.Ren := ⟨fun | 6 => 105 | 15 => 173 | 14 => 172 | 28 => 224 | 29 => 225 | 20 => 216 | 21 => 217 | 22 => 218 | 23 => 219 | 24 => 220 | 25 => 221 | 26 => 222 | 27 => 223 | 46 => 235 | 47 => 236 | 48 => 237 | 49 => 238 | 50 => 239 | 57 => 241 | n => n, fun | 22 => 82 | 24 => 87 | 25 => 170 | 3 => 3 | 39 => 201 | 0 => 0 | 53 => 280 | 55 => 191 | 4 => 4 | 46 => 273 | 45 => 272 | 50 => 277 | 5 => 5 | 9 => 9 | 66 => 291 | 70 => 295 | 76 => 297 | 77 => 298 | n => n, fun n => n⟩
theorem sortLayLab : SlLaysF0.n6 Tryz.prog sortLayLab_ren where
  mixed := by kernel_rfl
  f6 := ⟨ "slices.SortFunc[[]loop.example/g00658/impl.Label,loop.example/g00658/impl.Label]", by decide, Tryz.func105.trans (congrArg some (by kernel_rfl))⟩
  f14 := ⟨ "slices.pdqsortCmpFunc[loop.example/g00658/impl.Label]", by decide, Tryz.func172.trans (congrArg some (by kernel_rfl))⟩
  f15 := Tryz.func173.trans (congrArg some (by kernel_rfl))
  f20 := ⟨ "slices.insertionSortCmpFunc[loop.example/g00658/impl.Label]", by decide, Tryz.func216.trans (congrArg some (by kernel_rfl))⟩
  f21 := ⟨ "slices.heapSortCmpFunc[loop.example/g00658/impl.Label]", by decide, Tryz.func217.trans (congrArg some (by kernel_rfl))⟩
  f22 := ⟨ "slices.breakPatternsCmpFunc[loop.example/g00658/impl.Label]", by decide, Tryz.func218.trans (congrArg some (by kernel_rfl))⟩
  f23 := ⟨ "slices.choosePivotCmpFunc[loop.example/g00658/impl.Label]", by decide, Tryz.func219.trans (congrArg some (by kernel_rfl))⟩
  f24 := ⟨ "slices.reverseRangeCmpFunc[loop.example/g00658/impl.Label]", by decide, Tryz.func220.trans (congrArg some (by kernel_rfl))⟩
  f25 := ⟨ "slices.partialInsertionSortCmpFunc[loop.example/g00658/impl.Label]", by decide, Tryz.func221.trans (congrArg some (by kernel_rfl))⟩
  f26 := ⟨ "slices.partitionEqualCmpFunc[loop.example/g00658/impl.Label]", by decide, Tryz.func222.trans (congrArg some (by kernel_rfl))⟩
  f27 := ⟨ "slices.partitionCmpFunc[loop.example/g00658/impl.Label]", by decide, Tryz.func223.trans (congrArg some (by kernel_rfl))⟩
  f28 := Tryz.func224.trans (congrArg some (by kernel_rfl))
  f29 := Tryz.func225.trans (congrArg some (by kernel_rfl))
  f46 := ⟨ "slices.siftDownCmpFunc[loop.example/g00658/impl.Label]", by decide, Tryz.func235.trans (congrArg some (by kernel_rfl))⟩
  f47 := Tryz.func236.trans (congrArg some (by kernel_rfl))
  f48 := Tryz.func237.trans (congrArg some (by kernel_rfl))
  f49 := ⟨ "slices.medianAdjacentCmpFunc[loop.example/g00658/impl.Label]", by decide, Tryz.func238.trans (congrArg some (by kernel_rfl))⟩
  f50 := ⟨ "slices.medianCmpFunc[loop.example/g00658/impl.Label]", by decide, Tryz.func239.trans (congrArg some (by kernel_rfl))⟩
  f57 := ⟨ "slices.order2CmpFunc[loop.example/g00658/impl.Label]", by decide, Tryz.func241.trans (congrArg some (by kernel_rfl))⟩
  t0 := Tryz.underlying0
  a0 := Tryz.isAgg0
  z0 := Tryz.sizeOf0
  v0 := Tryz.zeroValue0
  t3 := Tryz.underlying3
  a3 := Tryz.isAgg3
  z3 := Tryz.sizeOf3
  v3 := Tryz.zeroValue3
  t4 := Tryz.underlying4
  a4 := Tryz.isAgg4
  z4 := Tryz.sizeOf4
  v4 := Tryz.zeroValue4
  t5 := Tryz.underlying5
  a5 := Tryz.isAgg5
  z5 := Tryz.sizeOf5
  v5 := Tryz.zeroValue5
  t9 := Tryz.underlying9
  a9 := Tryz.isAgg9
  z9 := Tryz.sizeOf9
  v9 := Tryz.zeroValue9
  t22 := Tryz.underlying82
  a22 := Tryz.isAgg82
  z22 := Tryz.sizeOf82
  v22 := Tryz.zeroValue82
  t25 := Tryz.underlying170
  a25 := Tryz.isAgg170
  z25 := Tryz.sizeOf170
  v25 := Tryz.zeroValue170
  t39 := Tryz.underlying201
  a39 := Tryz.isAgg201
  z39 := Tryz.sizeOf201
  v39 := Tryz.zeroValue201
  t45 := Tryz.underlying272
  a45 := Tryz.isAgg272
  z45 := Tryz.sizeOf272
  v45 := Tryz.zeroValue272
  t46 := Tryz.underlying273
  a46 := Tryz.isAgg273
  z46 := Tryz.sizeOf273
  v46 := Tryz.zeroValue273
  t50 := Tryz.underlying277
  a50 := Tryz.isAgg277
  z50 := Tryz.sizeOf277
  v50 := Tryz.zeroValue277
  t53 := Tryz.underlying280
  a53 := Tryz.isAgg280
  z53 := Tryz.sizeOf280
  v53 := Tryz.zeroValue280
  t55 := Tryz.underlying191
  a55 := Tryz.isAgg191
  z55 := Tryz.sizeOf191
  v55 := Tryz.zeroValue191
  t66 := Tryz.underlying291
  a66 := Tryz.isAgg291
  z66 := Tryz.sizeOf291
  v66 := Tryz.zeroValue291
  t70 := Tryz.underlying295
  a70 := Tryz.isAgg295
  z70 := Tryz.sizeOf295
  v70 := Tryz.zeroValue295
  t76 := Tryz.underlying297
  a76 := Tryz.isAgg297
  z76 := Tryz.sizeOf297
  v76 := Tryz.zeroValue297
  t77 := Tryz.underlying298
  a77 := Tryz.isAgg298
  z77 := Tryz.sizeOf298
  v77 := Tryz.zeroValue298
theorem slSortFunc_icompareLabels_w.ok (N : Nat) : Sound Tryz.prog 105 [.io, .fn 106 0] (slSortFunc_icompareLabels_w.S N) := sortFunc_ok sortLayLab (e := T86) rfl rfl (by decide) (by kernel_rfl) (icompareLabels.ok 3) cmpLab (fun x y => icompareLabels_F (by decide) (x, y, ())) swoLab totLab labLe leLab ⟨Tryz.f105, Tryz.func105, by kernel_rfl, by kernel_rfl⟩
def strCompare.S (N : Nat) : Sig := ⟨strCompare.P, strCompare.R, false, false, [], false, strCompare.F N⟩
set_option maxHeartbeats 1000000 in
theorem cmpStringOk (a b : ByteArray) (w : World) : Calls Tryz.prog 234 #[.string a, .string b] w fun e w' => e = .returned (.int .i64 (Lib.compareBytes a.data.toList b.data.toList)) ∧ w' = w := by
  go_enter Tryz.func234, Tryz.ntmps234
  go_wp2
  rw [run_callFunc_extern Tryz.func240 (by kernel_rfl) (by kernel_rfl) (by kernel_rfl) (e := Extern.BytealgCompare.compare) (by kernel_rfl), Lib.run_compareString]
  simp only [Result.andThen]
  rw [Oper.upon_value]
  go_wp2
  go_ret
  exact ⟨rfl, rfl⟩
set_option maxHeartbeats 1000000 in
theorem cmpStringsOk (a b : ByteArray) (w : World) : Calls Tryz.prog 213 #[.string a, .string b] w fun e w' => e = .returned (.int .i64 (cmpTxt a.data.toList b.data.toList)) ∧ w' = w := by
  rw [← cmpTxt_eq]
  go_enter Tryz.func213, Tryz.ntmps213
  go_wp2_with (go_at_call 234; refine (cmpStringOk _ _ _).mono ?_; rintro e w' ⟨rfl, rfl⟩)
  go_ret
  exact ⟨rfl, rfl⟩
theorem strCompare.ok (N : Nat) : Sound Tryz.prog 213 [.d, .d] (strCompare.S N) := str2_ok ⟨Tryz.f213, Tryz.func213, by kernel_rfl, by kernel_rfl⟩ cmpTxt cmpStringsOk
def lszLabelS.tb (N : Nat) : Tabs := ⟨tt, fun a b c => look3 a b c [], fun a b => look2 a b []⟩
def lszLabelS.S (N : Nat) : Sig := ⟨lszLabelS.P, lszLabelS.R, false, false, [], false, lszLabelS.F N⟩
theorem lszLabelS.eq (N : Nat) (x : lszLabelS.P.D) : topV (lszLabelS.tb N) 0 Tryz.f176 [.d, .d] lszLabelS.P lszLabelS.R false false [] x = lszLabelS.T N x := by kernel_rfl
theorem lszLabelS.ok (N : Nat) : Sound Tryz.prog 176 [.d, .d] (lszLabelS.S N) := by
  have hs : SigsOK Tryz.prog (lszLabelS.tb N) := sigs_of _ rfl trivial
  have g0 : Goods Tryz.prog (lszLabelS.tb N) Tryz.f176 [] := goods_nil
  exact ok_of tabOK mixed rfl hs Tryz.func176 g0 (by kernel_rfl) rfl (lszLabelS.eq N) (fun _ => rfl)
def lszLabelSS.i0_0 : Tmpl := ⟨0, 27, [0, 1, 5], [.d (some 0) T22, .d none (.int .i64), .d none (.int .i64)], []⟩
def lszLabelSS.o0_0 : Tmpl := ⟨0, 27, [1], [.d none (.int .i64)], []⟩
def lszLabelSS.r0_0 : Tmpl := ⟨0, 27, [4], [.d none (.int .i64)], []⟩
def lszLabelSS.G0_0 (N : Nat) : Frag := ⟨lszLabelSS.i0_0, lszLabelSS.o0_0, lszLabelSS.r0_0, lszLabelSS.C0_0, lszLabelSS.M0_0, lszLabelSS.O0_0, lszLabelSS.Q0_0, lszLabelSS.L0_0 N⟩
def lszLabelSS.tb (N : Nat) : Tabs := ⟨tt, fun a b c => look3 a b c [(0, 7, 5, CE.sig 176 [.d, .d] (lszLabelS.S N))], fun a b => look2 a b [(0, 0, lszLabelSS.G0_0 N)]⟩
theorem lszLabelSS.eq0_0 (N : Nat) (c : lszLabelSS.C0_0.D) (m : lszLabelSS.M0_0.D) : roundV (lszLabelSS.tb N) 0 Tryz.f109 0 lszLabelSS.i0_0 lszLabelSS.o0_0 lszLabelSS.r0_0 lszLabelSS.M0_0 lszLabelSS.O0_0 lszLabelSS.Q0_0 (unpack lszLabelSS.C0_0 c) m = (lszLabelSS.B0_0 N c m).map (withC (stays (unpack lszLabelSS.C0_0 c) [0]) (stays (unpack lszLabelSS.C0_0 c) []) (stays (unpack lszLabelSS.C0_0 c) [])) := by kernel_rfl
def lszLabelSS.S (N : Nat) : Sig := ⟨lszLabelSS.P, lszLabelSS.R, false, false, [], false, lszLabelSS.F N⟩
theorem lszLabelSS.eq (N : Nat) (x : lszLabelSS.P.D) : topV (lszLabelSS.tb N) 0 Tryz.f109 [.d, .d] lszLabelSS.P lszLabelSS.R false false [] x = lszLabelSS.T N x := by kernel_rfl
theorem lszLabelSS.ok (N : Nat) : Sound Tryz.prog 109 [.d, .d] (lszLabelSS.S N) := by
  have hs : SigsOK Tryz.prog (lszLabelSS.tb N) := sigs_of _ rfl ⟨lszLabelS.ok N, trivial⟩
  have g0 : Goods Tryz.prog (lszLabelSS.tb N) Tryz.f109 [] := goods_nil
  have g1 := goods_cons tabOK mixed rfl hs g0 0 (by kernel_rfl) (lszLabelSS.B0_0 N) N rfl (lszLabelSS.eq0_0 N)
  exact ok_of tabOK mixed rfl hs Tryz.func109 g1 (by kernel_rfl) rfl (lszLabelSS.eq N) (fun _ => rfl)
def lszPairS.tb (N : Nat) : Tabs := ⟨tt, fun a b c => look3 a b c [], fun a b => look2 a b []⟩
def lszPairS.S (N : Nat) : Sig := ⟨lszPairS.P, lszPairS.R, false, false, [], false, lszPairS.F N⟩
theorem lszPairS.eq (N : Nat) (x : lszPairS.P.D) : topV (lszPairS.tb N) 0 Tryz.f110 [.d, .d] lszPairS.P lszPairS.R false false [] x = lszPairS.T N x := by kernel_rfl
theorem lszPairS.ok (N : Nat) : Sound Tryz.prog 110 [.d, .d] (lszPairS.S N) := by
  have hs : SigsOK Tryz.prog (lszPairS.tb N) := sigs_of _ rfl trivial
  have g0 : Goods Tryz.prog (lszPairS.tb N) Tryz.f110 [] := goods_nil
  exact ok_of tabOK mixed rfl hs Tryz.func110 g0 (by kernel_rfl) rfl (lszPairS.eq N) (fun _ => rfl)
def lszQuotaS.tb (N : Nat) : Tabs := ⟨tt, fun a b c => look3 a b c [], fun a b => look2 a b []⟩
def lszQuotaS.S (N : Nat) : Sig := ⟨lszQuotaS.P, lszQuotaS.R, false, false, [], false, lszQuotaS.F N⟩
theorem lszQuotaS.eq (N : Nat) (x : lszQuotaS.P.D) : topV (lszQuotaS.tb N) 0 Tryz.f111 [.d, .d] lszQuotaS.P lszQuotaS.R false false [] x = lszQuotaS.T N x := by kernel_rfl
theorem lszQuotaS.ok (N : Nat) : Sound Tryz.prog 111 [.d, .d] (lszQuotaS.S N) := by
  have hs : SigsOK Tryz.prog (lszQuotaS.tb N) := sigs_of _ rfl trivial
  have g0 : Goods Tryz.prog (lszQuotaS.tb N) Tryz.f111 [] := goods_nil
  exact ok_of tabOK mixed rfl hs Tryz.func111 g0 (by kernel_rfl) rfl (lszQuotaS.eq N) (fun _ => rfl)
def lszConfig.tb (N : Nat) : Tabs := ⟨tt, fun a b c => look3 a b c [(0, 1, 3, CE.sig 109 [.d, .d] (lszLabelSS.S N)), (0, 4, 3, CE.sig 110 [.d, .d] (lszPairS.S N)), (0, 7, 3, CE.sig 111 [.d, .d] (lszQuotaS.S N))], fun a b => look2 a b []⟩
def lszConfig.S (N : Nat) : Sig := ⟨lszConfig.P, lszConfig.R, false, false, [], false, lszConfig.F N⟩
theorem lszConfig.eq (N : Nat) (x : lszConfig.P.D) : topV (lszConfig.tb N) 0 Tryz.f53 [.d, .d] lszConfig.P lszConfig.R false false [] x = lszConfig.T N x := by kernel_rfl
theorem lszConfig.ok (N : Nat) : Sound Tryz.prog 53 [.d, .d] (lszConfig.S N) := by
  have hs : SigsOK Tryz.prog (lszConfig.tb N) := sigs_of _ rfl ⟨lszLabelSS.ok N, lszPairS.ok N, lszQuotaS.ok N, trivial⟩
  have g0 : Goods Tryz.prog (lszConfig.tb N) Tryz.f53 [] := goods_nil
  exact ok_of tabOK mixed rfl hs Tryz.func53 g0 (by kernel_rfl) rfl (lszConfig.eq N) (fun _ => rfl)
def lszSpanS.tb (N : Nat) : Tabs := ⟨tt, fun a b c => look3 a b c [], fun a b => look2 a b []⟩
def lszSpanS.S (N : Nat) : Sig := ⟨lszSpanS.P, lszSpanS.R, false, false, [], false, lszSpanS.F N⟩
theorem lszSpanS.eq (N : Nat) (x : lszSpanS.P.D) : topV (lszSpanS.tb N) 0 Tryz.f177 [.d, .d] lszSpanS.P lszSpanS.R false false [] x = lszSpanS.T N x := by kernel_rfl
theorem lszSpanS.ok (N : Nat) : Sound Tryz.prog 177 [.d, .d] (lszSpanS.S N) := by
  have hs : SigsOK Tryz.prog (lszSpanS.tb N) := sigs_of _ rfl trivial
  have g0 : Goods Tryz.prog (lszSpanS.tb N) Tryz.f177 [] := goods_nil
  exact ok_of tabOK mixed rfl hs Tryz.func177 g0 (by kernel_rfl) rfl (lszSpanS.eq N) (fun _ => rfl)
def lszNode.tb (N : Nat) : Tabs := ⟨tt, fun a b c => look3 a b c [(0, 1, 3, CE.sig 177 [.d, .d] (lszSpanS.S N))], fun a b => look2 a b []⟩
def lszNode.S (N : Nat) : Sig := ⟨lszNode.P, lszNode.R, false, false, [], false, lszNode.F N⟩
theorem lszNode.eq (N : Nat) (x : lszNode.P.D) : topV (lszNode.tb N) 0 Tryz.f112 [.d, .d] lszNode.P lszNode.R false false [] x = lszNode.T N x := by kernel_rfl
theorem lszNode.ok (N : Nat) : Sound Tryz.prog 112 [.d, .d] (lszNode.S N) := by
  have hs : SigsOK Tryz.prog (lszNode.tb N) := sigs_of _ rfl ⟨lszSpanS.ok N, trivial⟩
  have g0 : Goods Tryz.prog (lszNode.tb N) Tryz.f112 [] := goods_nil
  exact ok_of tabOK mixed rfl hs Tryz.func112 g0 (by kernel_rfl) rfl (lszNode.eq N) (fun _ => rfl)
def lszNodeS.i0_0 : Tmpl := ⟨0, 27, [0, 1, 5], [.d (some 0) T27, .d none (.int .i64), .d none (.int .i64)], []⟩
def lszNodeS.o0_0 : Tmpl := ⟨0, 27, [1], [.d none (.int .i64)], []⟩
def lszNodeS.r0_0 : Tmpl := ⟨0, 27, [4], [.d none (.int .i64)], []⟩
def lszNodeS.G0_0 (N : Nat) : Frag := ⟨lszNodeS.i0_0, lszNodeS.o0_0, lszNodeS.r0_0, lszNodeS.C0_0, lszNodeS.M0_0, lszNodeS.O0_0, lszNodeS.Q0_0, lszNodeS.L0_0 N⟩
def lszNodeS.tb (N : Nat) : Tabs := ⟨tt, fun a b c => look3 a b c [(0, 7, 5, CE.sig 112 [.d, .d] (lszNode.S N))], fun a b => look2 a b [(0, 0, lszNodeS.G0_0 N)]⟩
theorem lszNodeS.eq0_0 (N : Nat) (c : lszNodeS.C0_0.D) (m : lszNodeS.M0_0.D) : roundV (lszNodeS.tb N) 0 Tryz.f54 0 lszNodeS.i0_0 lszNodeS.o0_0 lszNodeS.r0_0 lszNodeS.M0_0 lszNodeS.O0_0 lszNodeS.Q0_0 (unpack lszNodeS.C0_0 c) m = (lszNodeS.B0_0 N c m).map (withC (stays (unpack lszNodeS.C0_0 c) [0]) (stays (unpack lszNodeS.C0_0 c) []) (stays (unpack lszNodeS.C0_0 c) [])) := by kernel_rfl
def lszNodeS.S (N : Nat) : Sig := ⟨lszNodeS.P, lszNodeS.R, false, false, [], false, lszNodeS.F N⟩
theorem lszNodeS.eq (N : Nat) (x : lszNodeS.P.D) : topV (lszNodeS.tb N) 0 Tryz.f54 [.d, .d] lszNodeS.P lszNodeS.R false false [] x = lszNodeS.T N x := by kernel_rfl
theorem lszNodeS.ok (N : Nat) : Sound Tryz.prog 54 [.d, .d] (lszNodeS.S N) := by
  have hs : SigsOK Tryz.prog (lszNodeS.tb N) := sigs_of _ rfl ⟨lszNode.ok N, trivial⟩
  have g0 : Goods Tryz.prog (lszNodeS.tb N) Tryz.f54 [] := goods_nil
  have g1 := goods_cons tabOK mixed rfl hs g0 0 (by kernel_rfl) (lszNodeS.B0_0 N) N rfl (lszNodeS.eq0_0 N)
  exact ok_of tabOK mixed rfl hs Tryz.func54 g1 (by kernel_rfl) rfl (lszNodeS.eq N) (fun _ => rfl)
def lszInt64S.tb (N : Nat) : Tabs := ⟨tt, fun a b c => look3 a b c [], fun a b => look2 a b []⟩
def lszInt64S.S (N : Nat) : Sig := ⟨lszInt64S.P, lszInt64S.R, false, false, [], false, lszInt64S.F N⟩
theorem lszInt64S.eq (N : Nat) (x : lszInt64S.P.D) : topV (lszInt64S.tb N) 0 Tryz.f178 [.d, .d] lszInt64S.P lszInt64S.R false false [] x = lszInt64S.T N x := by kernel_rfl
theorem lszInt64S.ok (N : Nat) : Sound Tryz.prog 178 [.d, .d] (lszInt64S.S N) := by
  have hs : SigsOK Tryz.prog (lszInt64S.tb N) := sigs_of _ rfl trivial
  have g0 : Goods Tryz.prog (lszInt64S.tb N) Tryz.f178 [] := goods_nil
  exact ok_of tabOK mixed rfl hs Tryz.func178 g0 (by kernel_rfl) rfl (lszInt64S.eq N) (fun _ => rfl)
def lszTask.tb (N : Nat) : Tabs := ⟨tt, fun a b c => look3 a b c [(0, 4, 3, CE.sig 178 [.d, .d] (lszInt64S.S N))], fun a b => look2 a b []⟩
def lszTask.S (N : Nat) : Sig := ⟨lszTask.P, lszTask.R, false, false, [], false, lszTask.F N⟩
theorem lszTask.eq (N : Nat) (x : lszTask.P.D) : topV (lszTask.tb N) 0 Tryz.f113 [.d, .d] lszTask.P lszTask.R false false [] x = lszTask.T N x := by kernel_rfl
theorem lszTask.ok (N : Nat) : Sound Tryz.prog 113 [.d, .d] (lszTask.S N) := by
  have hs : SigsOK Tryz.prog (lszTask.tb N) := sigs_of _ rfl ⟨lszInt64S.ok N, trivial⟩
  have g0 : Goods Tryz.prog (lszTask.tb N) Tryz.f113 [] := goods_nil
  exact ok_of tabOK mixed rfl hs Tryz.func113 g0 (by kernel_rfl) rfl (lszTask.eq N) (fun _ => rfl)
def lszTaskS.i0_0 : Tmpl := ⟨0, 27, [0, 1, 5], [.d (some 0) T28, .d none (.int .i64), .d none (.int .i64)], []⟩
def lszTaskS.o0_0 : Tmpl := ⟨0, 27, [1], [.d none (.int .i64)], []⟩
def lszTaskS.r0_0 : Tmpl := ⟨0, 27, [4], [.d none (.int .i64)], []⟩
def lszTaskS.G0_0 (N : Nat) : Frag := ⟨lszTaskS.i0_0, lszTaskS.o0_0, lszTaskS.r0_0, lszTaskS.C0_0, lszTaskS.M0_0, lszTaskS.O0_0, lszTaskS.Q0_0, lszTaskS.L0_0 N⟩
def lszTaskS.tb (N : Nat) : Tabs := ⟨tt, fun a b c => look3 a b c [(0, 7, 5, CE.sig 113 [.d, .d] (lszTask.S N))], fun a b => look2 a b [(0, 0, lszTaskS.G0_0 N)]⟩
theorem lszTaskS.eq0_0 (N : Nat) (c : lszTaskS.C0_0.D) (m : lszTaskS.M0_0.D) : roundV (lszTaskS.tb N) 0 Tryz.f55 0 lszTaskS.i0_0 lszTaskS.o0_0 lszTaskS.r0_0 lszTaskS.M0_0 lszTaskS.O0_0 lszTaskS.Q0_0 (unpack lszTaskS.C0_0 c) m = (lszTaskS.B0_0 N c m).map (withC (stays (unpack lszTaskS.C0_0 c) [0]) (stays (unpack lszTaskS.C0_0 c) []) (stays (unpack lszTaskS.C0_0 c) [])) := by kernel_rfl
def lszTaskS.S (N : Nat) : Sig := ⟨lszTaskS.P, lszTaskS.R, false, false, [], false, lszTaskS.F N⟩
theorem lszTaskS.eq (N : Nat) (x : lszTaskS.P.D) : topV (lszTaskS.tb N) 0 Tryz.f55 [.d, .d] lszTaskS.P lszTaskS.R false false [] x = lszTaskS.T N x := by kernel_rfl
theorem lszTaskS.ok (N : Nat) : Sound Tryz.prog 55 [.d, .d] (lszTaskS.S N) := by
  have hs : SigsOK Tryz.prog (lszTaskS.tb N) := sigs_of _ rfl ⟨lszTask.ok N, trivial⟩
  have g0 : Goods Tryz.prog (lszTaskS.tb N) Tryz.f55 [] := goods_nil
  have g1 := goods_cons tabOK mixed rfl hs g0 0 (by kernel_rfl) (lszTaskS.B0_0 N) N rfl (lszTaskS.eq0_0 N)
  exact ok_of tabOK mixed rfl hs Tryz.func55 g1 (by kernel_rfl) rfl (lszTaskS.eq N) (fun _ => rfl)
def lszUse.tb (N : Nat) : Tabs := ⟨tt, fun a b c => look3 a b c [], fun a b => look2 a b []⟩
def lszUse.S (N : Nat) : Sig := ⟨lszUse.P, lszUse.R, false, false, [], false, lszUse.F N⟩
theorem lszUse.eq (N : Nat) (x : lszUse.P.D) : topV (lszUse.tb N) 0 Tryz.f114 [.d, .d] lszUse.P lszUse.R false false [] x = lszUse.T N x := by kernel_rfl
theorem lszUse.ok (N : Nat) : Sound Tryz.prog 114 [.d, .d] (lszUse.S N) := by
  have hs : SigsOK Tryz.prog (lszUse.tb N) := sigs_of _ rfl trivial
  have g0 : Goods Tryz.prog (lszUse.tb N) Tryz.f114 [] := goods_nil
  exact ok_of tabOK mixed rfl hs Tryz.func114 g0 (by kernel_rfl) rfl (lszUse.eq N) (fun _ => rfl)
def lszUseS.i0_0 : Tmpl := ⟨0, 27, [0, 1, 5], [.d (some 0) T29, .d none (.int .i64), .d none (.int .i64)], []⟩
def lszUseS.o0_0 : Tmpl := ⟨0, 27, [1], [.d none (.int .i64)], []⟩
def lszUseS.r0_0 : Tmpl := ⟨0, 27, [4], [.d none (.int .i64)], []⟩
def lszUseS.G0_0 (N : Nat) : Frag := ⟨lszUseS.i0_0, lszUseS.o0_0, lszUseS.r0_0, lszUseS.C0_0, lszUseS.M0_0, lszUseS.O0_0, lszUseS.Q0_0, lszUseS.L0_0 N⟩
def lszUseS.tb (N : Nat) : Tabs := ⟨tt, fun a b c => look3 a b c [(0, 7, 5, CE.sig 114 [.d, .d] (lszUse.S N))], fun a b => look2 a b [(0, 0, lszUseS.G0_0 N)]⟩
theorem lszUseS.eq0_0 (N : Nat) (c : lszUseS.C0_0.D) (m : lszUseS.M0_0.D) : roundV (lszUseS.tb N) 0 Tryz.f56 0 lszUseS.i0_0 lszUseS.o0_0 lszUseS.r0_0 lszUseS.M0_0 lszUseS.O0_0 lszUseS.Q0_0 (unpack lszUseS.C0_0 c) m = (lszUseS.B0_0 N c m).map (withC (stays (unpack lszUseS.C0_0 c) [0]) (stays (unpack lszUseS.C0_0 c) []) (stays (unpack lszUseS.C0_0 c) [])) := by kernel_rfl
def lszUseS.S (N : Nat) : Sig := ⟨lszUseS.P, lszUseS.R, false, false, [], false, lszUseS.F N⟩
theorem lszUseS.eq (N : Nat) (x : lszUseS.P.D) : topV (lszUseS.tb N) 0 Tryz.f56 [.d, .d] lszUseS.P lszUseS.R false false [] x = lszUseS.T N x := by kernel_rfl
theorem lszUseS.ok (N : Nat) : Sound Tryz.prog 56 [.d, .d] (lszUseS.S N) := by
  have hs : SigsOK Tryz.prog (lszUseS.tb N) := sigs_of _ rfl ⟨lszUse.ok N, trivial⟩
  have g0 : Goods Tryz.prog (lszUseS.tb N) Tryz.f56 [] := goods_nil
  have g1 := goods_cons tabOK mixed rfl hs g0 0 (by kernel_rfl) (lszUseS.B0_0 N) N rfl (lszUseS.eq0_0 N)
  exact ok_of tabOK mixed rfl hs Tryz.func56 g1 (by kernel_rfl) rfl (lszUseS.eq N) (fun _ => rfl)
def lszYard.tb (N : Nat) : Tabs := ⟨tt, fun a b c => look3 a b c [(0, 1, 3, CE.sig 53 [.d, .d] (lszConfig.S N)), (0, 4, 3, CE.sig 54 [.d, .d] (lszNodeS.S N)), (0, 7, 3, CE.sig 55 [.d, .d] (lszTaskS.S N)), (0, 10, 3, CE.sig 56 [.d, .d] (lszUseS.S N))], fun a b => look2 a b []⟩
def lszYard.S (N : Nat) : Sig := ⟨lszYard.P, lszYard.R, false, false, [], false, lszYard.F N⟩
theorem lszYard.eq (N : Nat) (x : lszYard.P.D) : topV (lszYard.tb N) 0 Tryz.f26 [.d, .d] lszYard.P lszYard.R false false [] x = lszYard.T N x := by kernel_rfl
theorem lszYard.ok (N : Nat) : Sound Tryz.prog 26 [.d, .d] (lszYard.S N) := by
  have hs : SigsOK Tryz.prog (lszYard.tb N) := sigs_of _ rfl ⟨lszConfig.ok N, lszNodeS.ok N, lszTaskS.ok N, lszUseS.ok N, trivial⟩
  have g0 : Goods Tryz.prog (lszYard.tb N) Tryz.f26 [] := goods_nil
  exact ok_of tabOK mixed rfl hs Tryz.func26 g0 (by kernel_rfl) rfl (lszYard.eq N) (fun _ => rfl)
def lszNoteS.tb (N : Nat) : Tabs := ⟨tt, fun a b c => look3 a b c [], fun a b => look2 a b []⟩
def lszNoteS.S (N : Nat) : Sig := ⟨lszNoteS.P, lszNoteS.R, false, false, [], false, lszNoteS.F N⟩
theorem lszNoteS.eq (N : Nat) (x : lszNoteS.P.D) : topV (lszNoteS.tb N) 0 Tryz.f179 [.d, .d] lszNoteS.P lszNoteS.R false false [] x = lszNoteS.T N x := by kernel_rfl
theorem lszNoteS.ok (N : Nat) : Sound Tryz.prog 179 [.d, .d] (lszNoteS.S N) := by
  have hs : SigsOK Tryz.prog (lszNoteS.tb N) := sigs_of _ rfl trivial
  have g0 : Goods Tryz.prog (lszNoteS.tb N) Tryz.f179 [] := goods_nil
  exact ok_of tabOK mixed rfl hs Tryz.func179 g0 (by kernel_rfl) rfl (lszNoteS.eq N) (fun _ => rfl)
def lszBox.tb (N : Nat) : Tabs := ⟨tt, fun a b c => look3 a b c [(0, 1, 3, CE.sig 178 [.d, .d] (lszInt64S.S N)), (0, 4, 3, CE.sig 178 [.d, .d] (lszInt64S.S N)), (0, 7, 3, CE.sig 179 [.d, .d] (lszNoteS.S N))], fun a b => look2 a b []⟩
def lszBox.S (N : Nat) : Sig := ⟨lszBox.P, lszBox.R, false, false, [], false, lszBox.F N⟩
theorem lszBox.eq (N : Nat) (x : lszBox.P.D) : topV (lszBox.tb N) 0 Tryz.f115 [.d, .d] lszBox.P lszBox.R false false [] x = lszBox.T N x := by kernel_rfl
theorem lszBox.ok (N : Nat) : Sound Tryz.prog 115 [.d, .d] (lszBox.S N) := by
  have hs : SigsOK Tryz.prog (lszBox.tb N) := sigs_of _ rfl ⟨lszInt64S.ok N, lszInt64S.ok N, lszNoteS.ok N, trivial⟩
  have g0 : Goods Tryz.prog (lszBox.tb N) Tryz.f115 [] := goods_nil
  exact ok_of tabOK mixed rfl hs Tryz.func115 g0 (by kernel_rfl) rfl (lszBox.eq N) (fun _ => rfl)
def lszBoxS.i0_0 : Tmpl := ⟨0, 27, [0, 1, 5], [.d (some 0) T32, .d none (.int .i64), .d none (.int .i64)], []⟩
def lszBoxS.o0_0 : Tmpl := ⟨0, 27, [1], [.d none (.int .i64)], []⟩
def lszBoxS.r0_0 : Tmpl := ⟨0, 27, [4], [.d none (.int .i64)], []⟩
def lszBoxS.G0_0 (N : Nat) : Frag := ⟨lszBoxS.i0_0, lszBoxS.o0_0, lszBoxS.r0_0, lszBoxS.C0_0, lszBoxS.M0_0, lszBoxS.O0_0, lszBoxS.Q0_0, lszBoxS.L0_0 N⟩
def lszBoxS.tb (N : Nat) : Tabs := ⟨tt, fun a b c => look3 a b c [(0, 7, 5, CE.sig 115 [.d, .d] (lszBox.S N))], fun a b => look2 a b [(0, 0, lszBoxS.G0_0 N)]⟩
theorem lszBoxS.eq0_0 (N : Nat) (c : lszBoxS.C0_0.D) (m : lszBoxS.M0_0.D) : roundV (lszBoxS.tb N) 0 Tryz.f57 0 lszBoxS.i0_0 lszBoxS.o0_0 lszBoxS.r0_0 lszBoxS.M0_0 lszBoxS.O0_0 lszBoxS.Q0_0 (unpack lszBoxS.C0_0 c) m = (lszBoxS.B0_0 N c m).map (withC (stays (unpack lszBoxS.C0_0 c) [0]) (stays (unpack lszBoxS.C0_0 c) []) (stays (unpack lszBoxS.C0_0 c) [])) := by kernel_rfl
def lszBoxS.S (N : Nat) : Sig := ⟨lszBoxS.P, lszBoxS.R, false, false, [], false, lszBoxS.F N⟩
theorem lszBoxS.eq (N : Nat) (x : lszBoxS.P.D) : topV (lszBoxS.tb N) 0 Tryz.f57 [.d, .d] lszBoxS.P lszBoxS.R false false [] x = lszBoxS.T N x := by kernel_rfl
theorem lszBoxS.ok (N : Nat) : Sound Tryz.prog 57 [.d, .d] (lszBoxS.S N) := by
  have hs : SigsOK Tryz.prog (lszBoxS.tb N) := sigs_of _ rfl ⟨lszBox.ok N, trivial⟩
  have g0 : Goods Tryz.prog (lszBoxS.tb N) Tryz.f57 [] := goods_nil
  have g1 := goods_cons tabOK mixed rfl hs g0 0 (by kernel_rfl) (lszBoxS.B0_0 N) N rfl (lszBoxS.eq0_0 N)
  exact ok_of tabOK mixed rfl hs Tryz.func57 g1 (by kernel_rfl) rfl (lszBoxS.eq N) (fun _ => rfl)
def lszMail.tb (N : Nat) : Tabs := ⟨tt, fun a b c => look3 a b c [(0, 1, 3, CE.sig 57 [.d, .d] (lszBoxS.S N))], fun a b => look2 a b []⟩
def lszMail.S (N : Nat) : Sig := ⟨lszMail.P, lszMail.R, false, false, [], false, lszMail.F N⟩
theorem lszMail.eq (N : Nat) (x : lszMail.P.D) : topV (lszMail.tb N) 0 Tryz.f27 [.d, .d] lszMail.P lszMail.R false false [] x = lszMail.T N x := by kernel_rfl
theorem lszMail.ok (N : Nat) : Sound Tryz.prog 27 [.d, .d] (lszMail.S N) := by
  have hs : SigsOK Tryz.prog (lszMail.tb N) := sigs_of _ rfl ⟨lszBoxS.ok N, trivial⟩
  have g0 : Goods Tryz.prog (lszMail.tb N) Tryz.f27 [] := goods_nil
  exact ok_of tabOK mixed rfl hs Tryz.func27 g0 (by kernel_rfl) rfl (lszMail.eq N) (fun _ => rfl)
def lszState.tb (N : Nat) : Tabs := ⟨tt, fun a b c => look3 a b c [(0, 1, 3, CE.sig 26 [.d, .d] (lszYard.S N)), (0, 4, 3, CE.sig 27 [.d, .d] (lszMail.S N))], fun a b => look2 a b []⟩
def lszState.S (N : Nat) : Sig := ⟨lszState.P, lszState.R, false, false, [], false, lszState.F N⟩
theorem lszState.eq (N : Nat) (x : lszState.P.D) : topV (lszState.tb N) 0 Tryz.f10 [.d, .d] lszState.P lszState.R false false [] x = lszState.T N x := by kernel_rfl
theorem lszState.ok (N : Nat) : Sound Tryz.prog 10 [.d, .d] (lszState.S N) := by
  have hs : SigsOK Tryz.prog (lszState.tb N) := sigs_of _ rfl ⟨lszYard.ok N, lszMail.ok N, trivial⟩
  have g0 : Goods Tryz.prog (lszState.tb N) Tryz.f10 [] := goods_nil
  exact ok_of tabOK mixed rfl hs Tryz.func10 g0 (by kernel_rfl) rfl (lszState.eq N) (fun _ => rfl)
def lszRegion.tb (N : Nat) : Tabs := ⟨tt, fun a b c => look3 a b c [], fun a b => look2 a b []⟩
def lszRegion.S (N : Nat) : Sig := ⟨lszRegion.P, lszRegion.R, false, false, [], false, lszRegion.F N⟩
theorem lszRegion.eq (N : Nat) (x : lszRegion.P.D) : topV (lszRegion.tb N) 0 Tryz.f77 [.d, .d] lszRegion.P lszRegion.R false false [] x = lszRegion.T N x := by kernel_rfl
theorem lszRegion.ok (N : Nat) : Sound Tryz.prog 77 [.d, .d] (lszRegion.S N) := by
  have hs : SigsOK Tryz.prog (lszRegion.tb N) := sigs_of _ rfl trivial
  have g0 : Goods Tryz.prog (lszRegion.tb N) Tryz.f77 [] := goods_nil
  exact ok_of tabOK mixed rfl hs Tryz.func77 g0 (by kernel_rfl) rfl (lszRegion.eq N) (fun _ => rfl)
def lszRegionS.i0_0 : Tmpl := ⟨0, 27, [0, 1, 5], [.d (some 0) T37, .d none (.int .i64), .d none (.int .i64)], []⟩
def lszRegionS.o0_0 : Tmpl := ⟨0, 27, [1], [.d none (.int .i64)], []⟩
def lszRegionS.r0_0 : Tmpl := ⟨0, 27, [4], [.d none (.int .i64)], []⟩
def lszRegionS.G0_0 (N : Nat) : Frag := ⟨lszRegionS.i0_0, lszRegionS.o0_0, lszRegionS.r0_0, lszRegionS.C0_0, lszRegionS.M0_0, lszRegionS.O0_0, lszRegionS.Q0_0, lszRegionS.L0_0 N⟩
def lszRegionS.tb (N : Nat) : Tabs := ⟨tt, fun a b c => look3 a b c [(0, 7, 5, CE.sig 77 [.d, .d] (lszRegion.S N))], fun a b => look2 a b [(0, 0, lszRegionS.G0_0 N)]⟩
theorem lszRegionS.eq0_0 (N : Nat) (c : lszRegionS.C0_0.D) (m : lszRegionS.M0_0.D) : roundV (lszRegionS.tb N) 0 Tryz.f38 0 lszRegionS.i0_0 lszRegionS.o0_0 lszRegionS.r0_0 lszRegionS.M0_0 lszRegionS.O0_0 lszRegionS.Q0_0 (unpack lszRegionS.C0_0 c) m = (lszRegionS.B0_0 N c m).map (withC (stays (unpack lszRegionS.C0_0 c) [0]) (stays (unpack lszRegionS.C0_0 c) []) (stays (unpack lszRegionS.C0_0 c) [])) := by kernel_rfl
def lszRegionS.S (N : Nat) : Sig := ⟨lszRegionS.P, lszRegionS.R, false, false, [], false, lszRegionS.F N⟩
theorem lszRegionS.eq (N : Nat) (x : lszRegionS.P.D) : topV (lszRegionS.tb N) 0 Tryz.f38 [.d, .d] lszRegionS.P lszRegionS.R false false [] x = lszRegionS.T N x := by kernel_rfl
theorem lszRegionS.ok (N : Nat) : Sound Tryz.prog 38 [.d, .d] (lszRegionS.S N) := by
  have hs : SigsOK Tryz.prog (lszRegionS.tb N) := sigs_of _ rfl ⟨lszRegion.ok N, trivial⟩
  have g0 : Goods Tryz.prog (lszRegionS.tb N) Tryz.f38 [] := goods_nil
  have g1 := goods_cons tabOK mixed rfl hs g0 0 (by kernel_rfl) (lszRegionS.B0_0 N) N rfl (lszRegionS.eq0_0 N)
  exact ok_of tabOK mixed rfl hs Tryz.func38 g1 (by kernel_rfl) rfl (lszRegionS.eq N) (fun _ => rfl)
def lszDisk.tb (N : Nat) : Tabs := ⟨tt, fun a b c => look3 a b c [(0, 1, 3, CE.sig 38 [.d, .d] (lszRegionS.S N))], fun a b => look2 a b []⟩
def lszDisk.S (N : Nat) : Sig := ⟨lszDisk.P, lszDisk.R, false, false, [], false, lszDisk.F N⟩
theorem lszDisk.eq (N : Nat) (x : lszDisk.P.D) : topV (lszDisk.tb N) 0 Tryz.f15 [.d, .d] lszDisk.P lszDisk.R false false [] x = lszDisk.T N x := by kernel_rfl
theorem lszDisk.ok (N : Nat) : Sound Tryz.prog 15 [.d, .d] (lszDisk.S N) := by
  have hs : SigsOK Tryz.prog (lszDisk.tb N) := sigs_of _ rfl ⟨lszRegionS.ok N, trivial⟩
  have g0 : Goods Tryz.prog (lszDisk.tb N) Tryz.f15 [] := goods_nil
  exact ok_of tabOK mixed rfl hs Tryz.func15 g0 (by kernel_rfl) rfl (lszDisk.eq N) (fun _ => rfl)
def lszHouse.tb (N : Nat) : Tabs := ⟨tt, fun a b c => look3 a b c [(0, 1, 3, CE.sig 10 [.d, .d] (lszState.S N)), (0, 4, 3, CE.sig 15 [.d, .d] (lszDisk.S N))], fun a b => look2 a b []⟩
def lszHouse.S (N : Nat) : Sig := ⟨lszHouse.P, lszHouse.R, false, false, [], false, lszHouse.F N⟩
theorem lszHouse.eq (N : Nat) (x : lszHouse.P.D) : topV (lszHouse.tb N) 0 Tryz.f5 [.d, .d] lszHouse.P lszHouse.R false false [] x = lszHouse.T N x := by kernel_rfl
theorem lszHouse.ok (N : Nat) : Sound Tryz.prog 5 [.d, .d] (lszHouse.S N) := by
  have hs : SigsOK Tryz.prog (lszHouse.tb N) := sigs_of _ rfl ⟨lszState.ok N, lszDisk.ok N, trivial⟩
  have g0 : Goods Tryz.prog (lszHouse.tb N) Tryz.f5 [] := goods_nil
  exact ok_of tabOK mixed rfl hs Tryz.func5 g0 (by kernel_rfl) rfl (lszHouse.eq N) (fun _ => rfl)
def ltoLabel.tb (N : Nat) : Tabs := ⟨tt, fun a b c => look3 a b c [], fun a b => look2 a b []⟩
def ltoLabel.S (N : Nat) : Sig := ⟨ltoLabel.P, ltoLabel.R, false, false, [], false, ltoLabel.F N⟩
theorem ltoLabel.eq (N : Nat) (x : ltoLabel.P.D) : topV (ltoLabel.tb N) 0 Tryz.f186 [.d] ltoLabel.P ltoLabel.R false false [] x = ltoLabel.T N x := by kernel_rfl
theorem ltoLabel.ok (N : Nat) : Sound Tryz.prog 186 [.d] (ltoLabel.S N) := by
  have hs : SigsOK Tryz.prog (ltoLabel.tb N) := sigs_of _ rfl trivial
  have g0 : Goods Tryz.prog (ltoLabel.tb N) Tryz.f186 [] := goods_nil
  exact ok_of tabOK mixed rfl hs Tryz.func186 g0 (by kernel_rfl) rfl (ltoLabel.eq N) (fun _ => rfl)
def ltoLabelS.i0_0 : Tmpl := ⟨1, 23, [0, 3, 4], [.d (some 0) T239, .row 1, .d none (.int .i64)], [.dead, .row none 87 T86]⟩
def ltoLabelS.o0_0 : Tmpl := ⟨1, 23, [3], [.row 1], [.dead, .row none 87 T86]⟩
def ltoLabelS.r0_0 : Tmpl := ⟨0, 0, [], [.d (some 9999) .unit], []⟩
def ltoLabelS.G0_0 (N : Nat) : Frag := ⟨ltoLabelS.i0_0, ltoLabelS.o0_0, ltoLabelS.r0_0, ltoLabelS.C0_0, ltoLabelS.M0_0, ltoLabelS.O0_0, ltoLabelS.Q0_0, ltoLabelS.L0_0 N⟩
def ltoLabelS.tb (N : Nat) : Tabs := ⟨tt, fun a b c => look3 a b c [(0, 5, 6, CE.sig 186 [.d] (ltoLabel.S N))], fun a b => look2 a b [(0, 0, ltoLabelS.G0_0 N)]⟩
theorem ltoLabelS.eq0_0 (N : Nat) (c : ltoLabelS.C0_0.D) (m : ltoLabelS.M0_0.D) : roundV (ltoLabelS.tb N) 0 Tryz.f182 0 ltoLabelS.i0_0 ltoLabelS.o0_0 ltoLabelS.r0_0 ltoLabelS.M0_0 ltoLabelS.O0_0 ltoLabelS.Q0_0 (unpack ltoLabelS.C0_0 c) m = (ltoLabelS.B0_0 N c m).map (withC (stays (unpack ltoLabelS.C0_0 c) [0]) (stays (unpack ltoLabelS.C0_0 c) []) (stays (unpack ltoLabelS.C0_0 c) [])) := by kernel_rfl
def ltoLabelS.S (N : Nat) : Sig := ⟨ltoLabelS.P, ltoLabelS.R, false, false, [true], false, ltoLabelS.F N⟩
theorem ltoLabelS.eq (N : Nat) (x : ltoLabelS.P.D) : topV (ltoLabelS.tb N) 0 Tryz.f182 [.d] ltoLabelS.P ltoLabelS.R false false [true] x = ltoLabelS.T N x := by kernel_rfl
theorem ltoLabelS.ok (N : Nat) : Sound Tryz.prog 182 [.d] (ltoLabelS.S N) := by
  have hs : SigsOK Tryz.prog (ltoLabelS.tb N) := sigs_of _ rfl ⟨ltoLabel.ok N, trivial⟩
  have g0 : Goods Tryz.prog (ltoLabelS.tb N) Tryz.f182 [] := goods_nil
  have g1 := goods_cons tabOK mixed rfl hs g0 0 (by kernel_rfl) (ltoLabelS.B0_0 N) N rfl (ltoLabelS.eq0_0 N)
  exact ok_of tabOK mixed rfl hs Tryz.func182 g1 (by kernel_rfl) rfl (ltoLabelS.eq N) (fun _ => rfl)
def ltoLabelSS.i0_0 : Tmpl := ⟨1, 23, [0, 3, 4], [.d (some 0) T22, .row 1, .d none (.int .i64)], [.dead, .row none 82 T82]⟩
def ltoLabelSS.o0_0 : Tmpl := ⟨1, 23, [3], [.row 1], [.dead, .row none 82 T82]⟩
def ltoLabelSS.r0_0 : Tmpl := ⟨0, 0, [], [.d (some 9999) .unit], []⟩
def ltoLabelSS.G0_0 (N : Nat) : Frag := ⟨ltoLabelSS.i0_0, ltoLabelSS.o0_0, ltoLabelSS.r0_0, ltoLabelSS.C0_0, ltoLabelSS.M0_0, ltoLabelSS.O0_0, ltoLabelSS.Q0_0, ltoLabelSS.L0_0 N⟩
def ltoLabelSS.tb (N : Nat) : Tabs := ⟨tt, fun a b c => look3 a b c [(0, 5, 6, CE.sig 182 [.d] (ltoLabelS.S N))], fun a b => look2 a b [(0, 0, ltoLabelSS.G0_0 N)]⟩
theorem ltoLabelSS.eq0_0 (N : Nat) (c : ltoLabelSS.C0_0.D) (m : ltoLabelSS.M0_0.D) : roundV (ltoLabelSS.tb N) 0 Tryz.f118 0 ltoLabelSS.i0_0 ltoLabelSS.o0_0 ltoLabelSS.r0_0 ltoLabelSS.M0_0 ltoLabelSS.O0_0 ltoLabelSS.Q0_0 (unpack ltoLabelSS.C0_0 c) m = (ltoLabelSS.B0_0 N c m).map (withC (stays (unpack ltoLabelSS.C0_0 c) [0]) (stays (unpack ltoLabelSS.C0_0 c) []) (stays (unpack ltoLabelSS.C0_0 c) [])) := by kernel_rfl
def ltoLabelSS.S (N : Nat) : Sig := ⟨ltoLabelSS.P, ltoLabelSS.R, false, false, [true], true, ltoLabelSS.F N⟩
theorem ltoLabelSS.eq (N : Nat) (x : ltoLabelSS.P.D) : topV (ltoLabelSS.tb N) 0 Tryz.f118 [.d] ltoLabelSS.P ltoLabelSS.R false false [true] x = ltoLabelSS.T N x := by kernel_rfl
theorem ltoLabelSS.ok (N : Nat) : Sound Tryz.prog 118 [.d] (ltoLabelSS.S N) := by
  have hs : SigsOK Tryz.prog (ltoLabelSS.tb N) := sigs_of _ rfl ⟨ltoLabelS.ok N, trivial⟩
  have g0 : Goods Tryz.prog (ltoLabelSS.tb N) Tryz.f118 [] := goods_nil
  have g1 := goods_cons tabOK mixed rfl hs g0 0 (by kernel_rfl) (ltoLabelSS.B0_0 N) N rfl (ltoLabelSS.eq0_0 N)
  exact ok_of tabOK mixed rfl hs Tryz.func118 g1 (by kernel_rfl) rfl (ltoLabelSS.eq N) (fun _ => rfl)
def ltoPair.tb (N : Nat) : Tabs := ⟨tt, fun a b c => look3 a b c [(0, 2, 2, CE.sig 186 [.d] (ltoLabel.S N)), (0, 3, 2, CE.sig 186 [.d] (ltoLabel.S N))], fun a b => look2 a b []⟩
def ltoPair.S (N : Nat) : Sig := ⟨ltoPair.P, ltoPair.R, false, false, [], false, ltoPair.F N⟩
theorem ltoPair.eq (N : Nat) (x : ltoPair.P.D) : topV (ltoPair.tb N) 0 Tryz.f183 [.d] ltoPair.P ltoPair.R false false [] x = ltoPair.T N x := by kernel_rfl
theorem ltoPair.ok (N : Nat) : Sound Tryz.prog 183 [.d] (ltoPair.S N) := by
  have hs : SigsOK Tryz.prog (ltoPair.tb N) := sigs_of _ rfl ⟨ltoLabel.ok N, ltoLabel.ok N, trivial⟩
  have g0 : Goods Tryz.prog (ltoPair.tb N) Tryz.f183 [] := goods_nil
  exact ok_of tabOK mixed rfl hs Tryz.func183 g0 (by kernel_rfl) rfl (ltoPair.eq N) (fun _ => rfl)
def ltoPairS.i0_0 : Tmpl := ⟨1, 23, [0, 3, 4], [.d (some 0) T23, .row 1, .d none (.int .i64)], [.dead, .row none 135 T134]⟩
def ltoPairS.o0_0 : Tmpl := ⟨1, 23, [3], [.row 1], [.dead, .row none 135 T134]⟩
def ltoPairS.r0_0 : Tmpl := ⟨0, 0, [], [.d (some 9999) .unit], []⟩
def ltoPairS.G0_0 (N : Nat) : Frag := ⟨ltoPairS.i0_0, ltoPairS.o0_0, ltoPairS.r0_0, ltoPairS.C0_0, ltoPairS.M0_0, ltoPairS.O0_0, ltoPairS.Q0_0, ltoPairS.L0_0 N⟩
def ltoPairS.tb (N : Nat) : Tabs := ⟨tt, fun a b c => look3 a b c [(0, 5, 6, CE.sig 183 [.d] (ltoPair.S N))], fun a b => look2 a b [(0, 0, ltoPairS.G0_0 N)]⟩
theorem ltoPairS.eq0_0 (N : Nat) (c : ltoPairS.C0_0.D) (m : ltoPairS.M0_0.D) : roundV (ltoPairS.tb N) 0 Tryz.f119 0 ltoPairS.i0_0 ltoPairS.o0_0 ltoPairS.r0_0 ltoPairS.M0_0 ltoPairS.O0_0 ltoPairS.Q0_0 (unpack ltoPairS.C0_0 c) m = (ltoPairS.B0_0 N c m).map (withC (stays (unpack ltoPairS.C0_0 c) [0]) (stays (unpack ltoPairS.C0_0 c) []) (stays (unpack ltoPairS.C0_0 c) [])) := by kernel_rfl
def ltoPairS.S (N : Nat) : Sig := ⟨ltoPairS.P, ltoPairS.R, false, false, [true], false, ltoPairS.F N⟩
theorem ltoPairS.eq (N : Nat) (x : ltoPairS.P.D) : topV (ltoPairS.tb N) 0 Tryz.f119 [.d] ltoPairS.P ltoPairS.R false false [true] x = ltoPairS.T N x := by kernel_rfl
theorem ltoPairS.ok (N : Nat) : Sound Tryz.prog 119 [.d] (ltoPairS.S N) := by
  have hs : SigsOK Tryz.prog (ltoPairS.tb N) := sigs_of _ rfl ⟨ltoPair.ok N, trivial⟩
  have g0 : Goods Tryz.prog (ltoPairS.tb N) Tryz.f119 [] := goods_nil
  have g1 := goods_cons tabOK mixed rfl hs g0 0 (by kernel_rfl) (ltoPairS.B0_0 N) N rfl (ltoPairS.eq0_0 N)
  exact ok_of tabOK mixed rfl hs Tryz.func119 g1 (by kernel_rfl) rfl (ltoPairS.eq N) (fun _ => rfl)
def ltoQuota.tb (N : Nat) : Tabs := ⟨tt, fun a b c => look3 a b c [(0, 2, 2, CE.sig 186 [.d] (ltoLabel.S N))], fun a b => look2 a b []⟩
def ltoQuota.S (N : Nat) : Sig := ⟨ltoQuota.P, ltoQuota.R, false, false, [], false, ltoQuota.F N⟩
theorem ltoQuota.eq (N : Nat) (x : ltoQuota.P.D) : topV (ltoQuota.tb N) 0 Tryz.f184 [.d] ltoQuota.P ltoQuota.R false false [] x = ltoQuota.T N x := by kernel_rfl
theorem ltoQuota.ok (N : Nat) : Sound Tryz.prog 184 [.d] (ltoQuota.S N) := by
  have hs : SigsOK Tryz.prog (ltoQuota.tb N) := sigs_of _ rfl ⟨ltoLabel.ok N, trivial⟩
  have g0 : Goods Tryz.prog (ltoQuota.tb N) Tryz.f184 [] := goods_nil
  exact ok_of tabOK mixed rfl hs Tryz.func184 g0 (by kernel_rfl) rfl (ltoQuota.eq N) (fun _ => rfl)
def ltoQuotaS.i0_0 : Tmpl := ⟨1, 23, [0, 3, 4], [.d (some 0) T24, .row 1, .d none (.int .i64)], [.dead, .row none 219 T218]⟩
def ltoQuotaS.o0_0 : Tmpl := ⟨1, 23, [3], [.row 1], [.dead, .row none 219 T218]⟩
def ltoQuotaS.r0_0 : Tmpl := ⟨0, 0, [], [.d (some 9999) .unit], []⟩
def ltoQuotaS.G0_0 (N : Nat) : Frag := ⟨ltoQuotaS.i0_0, ltoQuotaS.o0_0, ltoQuotaS.r0_0, ltoQuotaS.C0_0, ltoQuotaS.M0_0, ltoQuotaS.O0_0, ltoQuotaS.Q0_0, ltoQuotaS.L0_0 N⟩
def ltoQuotaS.tb (N : Nat) : Tabs := ⟨tt, fun a b c => look3 a b c [(0, 5, 6, CE.sig 184 [.d] (ltoQuota.S N))], fun a b => look2 a b [(0, 0, ltoQuotaS.G0_0 N)]⟩
theorem ltoQuotaS.eq0_0 (N : Nat) (c : ltoQuotaS.C0_0.D) (m : ltoQuotaS.M0_0.D) : roundV (ltoQuotaS.tb N) 0 Tryz.f120 0 ltoQuotaS.i0_0 ltoQuotaS.o0_0 ltoQuotaS.r0_0 ltoQuotaS.M0_0 ltoQuotaS.O0_0 ltoQuotaS.Q0_0 (unpack ltoQuotaS.C0_0 c) m = (ltoQuotaS.B0_0 N c m).map (withC (stays (unpack ltoQuotaS.C0_0 c) [0]) (stays (unpack ltoQuotaS.C0_0 c) []) (stays (unpack ltoQuotaS.C0_0 c) [])) := by kernel_rfl
def ltoQuotaS.S (N : Nat) : Sig := ⟨ltoQuotaS.P, ltoQuotaS.R, false, false, [true], false, ltoQuotaS.F N⟩
theorem ltoQuotaS.eq (N : Nat) (x : ltoQuotaS.P.D) : topV (ltoQuotaS.tb N) 0 Tryz.f120 [.d] ltoQuotaS.P ltoQuotaS.R false false [true] x = ltoQuotaS.T N x := by kernel_rfl
theorem ltoQuotaS.ok (N : Nat) : Sound Tryz.prog 120 [.d] (ltoQuotaS.S N) := by
  have hs : SigsOK Tryz.prog (ltoQuotaS.tb N) := sigs_of _ rfl ⟨ltoQuota.ok N, trivial⟩
  have g0 : Goods Tryz.prog (ltoQuotaS.tb N) Tryz.f120 [] := goods_nil
  have g1 := goods_cons tabOK mixed rfl hs g0 0 (by kernel_rfl) (ltoQuotaS.B0_0 N) N rfl (ltoQuotaS.eq0_0 N)
  exact ok_of tabOK mixed rfl hs Tryz.func120 g1 (by kernel_rfl) rfl (ltoQuotaS.eq N) (fun _ => rfl)
def ltoConfig.tb (N : Nat) : Tabs := ⟨tt, fun a b c => look3 a b c [(0, 2, 2, CE.sig 118 [.d] (ltoLabelSS.S N)), (0, 3, 2, CE.sig 119 [.d] (ltoPairS.S N)), (0, 4, 2, CE.sig 120 [.d] (ltoQuotaS.S N))], fun a b => look2 a b []⟩
def ltoConfig.S (N : Nat) : Sig := ⟨ltoConfig.P, ltoConfig.R, false, false, [true, true, true], true, ltoConfig.F N⟩
theorem ltoConfig.eq (N : Nat) (x : ltoConfig.P.D) : topV (ltoConfig.tb N) 0 Tryz.f63 [.d] ltoConfig.P ltoConfig.R false false [true, true, true] x = ltoConfig.T N x := by kernel_rfl
theorem ltoConfig.ok (N : Nat) : Sound Tryz.prog 63 [.d] (ltoConfig.S N) := by
  have hs : SigsOK Tryz.prog (ltoConfig.tb N) := sigs_of _ rfl ⟨ltoLabelSS.ok N, ltoPairS.ok N, ltoQuotaS.ok N, trivial⟩
  have g0 : Goods Tryz.prog (ltoConfig.tb N) Tryz.f63 [] := goods_nil
  exact ok_of tabOK mixed rfl hs Tryz.func63 g0 (by kernel_rfl) rfl (ltoConfig.eq N) (fun _ => rfl)
def ltoSpan.tb (N : Nat) : Tabs := ⟨tt, fun a b c => look3 a b c [], fun a b => look2 a b []⟩
def ltoSpan.S (N : Nat) : Sig := ⟨ltoSpan.P, ltoSpan.R, false, false, [], false, ltoSpan.F N⟩
theorem ltoSpan.eq (N : Nat) (x : ltoSpan.P.D) : topV (ltoSpan.tb N) 0 Tryz.f227 [.d] ltoSpan.P ltoSpan.R false false [] x = ltoSpan.T N x := by kernel_rfl
theorem ltoSpan.ok (N : Nat) : Sound Tryz.prog 227 [.d] (ltoSpan.S N) := by
  have hs : SigsOK Tryz.prog (ltoSpan.tb N) := sigs_of _ rfl trivial
  have g0 : Goods Tryz.prog (ltoSpan.tb N) Tryz.f227 [] := goods_nil
  exact ok_of tabOK mixed rfl hs Tryz.func227 g0 (by kernel_rfl) rfl (ltoSpan.eq N) (fun _ => rfl)
def ltoSpanS.i0_0 : Tmpl := ⟨1, 23, [0, 3, 4], [.d (some 0) T177, .row 1, .d none (.int .i64)], [.dead, .row none 126 T86]⟩
def ltoSpanS.o0_0 : Tmpl := ⟨1, 23, [3], [.row 1], [.dead, .row none 126 T86]⟩
def ltoSpanS.r0_0 : Tmpl := ⟨0, 0, [], [.d (some 9999) .unit], []⟩
def ltoSpanS.G0_0 (N : Nat) : Frag := ⟨ltoSpanS.i0_0, ltoSpanS.o0_0, ltoSpanS.r0_0, ltoSpanS.C0_0, ltoSpanS.M0_0, ltoSpanS.O0_0, ltoSpanS.Q0_0, ltoSpanS.L0_0 N⟩
def ltoSpanS.tb (N : Nat) : Tabs := ⟨tt, fun a b c => look3 a b c [(0, 5, 6, CE.sig 227 [.d] (ltoSpan.S N))], fun a b => look2 a b [(0, 0, ltoSpanS.G0_0 N)]⟩
theorem ltoSpanS.eq0_0 (N : Nat) (c : ltoSpanS.C0_0.D) (m : ltoSpanS.M0_0.D) : roundV (ltoSpanS.tb N) 0 Tryz.f185 0 ltoSpanS.i0_0 ltoSpanS.o0_0 ltoSpanS.r0_0 ltoSpanS.M0_0 ltoSpanS.O0_0 ltoSpanS.Q0_0 (unpack ltoSpanS.C0_0 c) m = (ltoSpanS.B0_0 N c m).map (withC (stays (unpack ltoSpanS.C0_0 c) [0]) (stays (unpack ltoSpanS.C0_0 c) []) (stays (unpack ltoSpanS.C0_0 c) [])) := by kernel_rfl
def ltoSpanS.S (N : Nat) : Sig := ⟨ltoSpanS.P, ltoSpanS.R, false, false, [true], false, ltoSpanS.F N⟩
theorem ltoSpanS.eq (N : Nat) (x : ltoSpanS.P.D) : topV (ltoSpanS.tb N) 0 Tryz.f185 [.d] ltoSpanS.P ltoSpanS.R false false [true] x = ltoSpanS.T N x := by kernel_rfl
theorem ltoSpanS.ok (N : Nat) : Sound Tryz.prog 185 [.d] (ltoSpanS.S N) := by
  have hs : SigsOK Tryz.prog (ltoSpanS.tb N) := sigs_of _ rfl ⟨ltoSpan.ok N, trivial⟩
  have g0 : Goods Tryz.prog (ltoSpanS.tb N) Tryz.f185 [] := goods_nil
  have g1 := goods_cons tabOK mixed rfl hs g0 0 (by kernel_rfl) (ltoSpanS.B0_0 N) N rfl (ltoSpanS.eq0_0 N)
  exact ok_of tabOK mixed rfl hs Tryz.func185 g1 (by kernel_rfl) rfl (ltoSpanS.eq N) (fun _ => rfl)
def ltoNode.tb (N : Nat) : Tabs := ⟨tt, fun a b c => look3 a b c [(0, 3, 2, CE.sig 185 [.d] (ltoSpanS.S N))], fun a b => look2 a b []⟩
def ltoNode.S (N : Nat) : Sig := ⟨ltoNode.P, ltoNode.R, false, false, [false, true], false, ltoNode.F N⟩
theorem ltoNode.eq (N : Nat) (x : ltoNode.P.D) : topV (ltoNode.tb N) 0 Tryz.f121 [.d] ltoNode.P ltoNode.R false false [false, true] x = ltoNode.T N x := by kernel_rfl
theorem ltoNode.ok (N : Nat) : Sound Tryz.prog 121 [.d] (ltoNode.S N) := by
  have hs : SigsOK Tryz.prog (ltoNode.tb N) := sigs_of _ rfl ⟨ltoSpanS.ok N, trivial⟩
  have g0 : Goods Tryz.prog (ltoNode.tb N) Tryz.f121 [] := goods_nil
  exact ok_of tabOK mixed rfl hs Tryz.func121 g0 (by kernel_rfl) rfl (ltoNode.eq N) (fun _ => rfl)
def ltoNodeS.i0_0 : Tmpl := ⟨1, 23, [0, 3, 4], [.d (some 0) T27, .row 1, .d none (.int .i64)], [.dead, .row none 124 T123]⟩
def ltoNodeS.o0_0 : Tmpl := ⟨1, 23, [3], [.row 1], [.dead, .row none 124 T123]⟩
def ltoNodeS.r0_0 : Tmpl := ⟨0, 0, [], [.d (some 9999) .unit], []⟩
def ltoNodeS.G0_0 (N : Nat) : Frag := ⟨ltoNodeS.i0_0, ltoNodeS.o0_0, ltoNodeS.r0_0, ltoNodeS.C0_0, ltoNodeS.M0_0, ltoNodeS.O0_0, ltoNodeS.Q0_0, ltoNodeS.L0_0 N⟩
def ltoNodeS.tb (N : Nat) : Tabs := ⟨tt, fun a b c => look3 a b c [(0, 5, 6, CE.sig 121 [.d] (ltoNode.S N))], fun a b => look2 a b [(0, 0, ltoNodeS.G0_0 N)]⟩
theorem ltoNodeS.eq0_0 (N : Nat) (c : ltoNodeS.C0_0.D) (m : ltoNodeS.M0_0.D) : roundV (ltoNodeS.tb N) 0 Tryz.f64 0 ltoNodeS.i0_0 ltoNodeS.o0_0 ltoNodeS.r0_0 ltoNodeS.M0_0 ltoNodeS.O0_0 ltoNodeS.Q0_0 (unpack ltoNodeS.C0_0 c) m = (ltoNodeS.B0_0 N c m).map (withC (stays (unpack ltoNodeS.C0_0 c) [0]) (stays (unpack ltoNodeS.C0_0 c) []) (stays (unpack ltoNodeS.C0_0 c) [])) := by kernel_rfl
def ltoNodeS.S (N : Nat) : Sig := ⟨ltoNodeS.P, ltoNodeS.R, false, false, [true], true, ltoNodeS.F N⟩
theorem ltoNodeS.eq (N : Nat) (x : ltoNodeS.P.D) : topV (ltoNodeS.tb N) 0 Tryz.f64 [.d] ltoNodeS.P ltoNodeS.R false false [true] x = ltoNodeS.T N x := by kernel_rfl
theorem ltoNodeS.ok (N : Nat) : Sound Tryz.prog 64 [.d] (ltoNodeS.S N) := by
  have hs : SigsOK Tryz.prog (ltoNodeS.tb N) := sigs_of _ rfl ⟨ltoNode.ok N, trivial⟩
  have g0 : Goods Tryz.prog (ltoNodeS.tb N) Tryz.f64 [] := goods_nil
  have g1 := goods_cons tabOK mixed rfl hs g0 0 (by kernel_rfl) (ltoNodeS.B0_0 N) N rfl (ltoNodeS.eq0_0 N)
  exact ok_of tabOK mixed rfl hs Tryz.func64 g1 (by kernel_rfl) rfl (ltoNodeS.eq N) (fun _ => rfl)
def ltoInt64S.i0_0 : Tmpl := ⟨1, 22, [0, 3, 4], [.d (some 0) T89, .row 1, .d none (.int .i64)], [.dead, .row none 2 (.int .i64)]⟩
def ltoInt64S.o0_0 : Tmpl := ⟨1, 22, [3], [.row 1], [.dead, .row none 2 (.int .i64)]⟩
def ltoInt64S.r0_0 : Tmpl := ⟨0, 0, [], [.d (some 9999) .unit], []⟩
def ltoInt64S.G0_0 (N : Nat) : Frag := ⟨ltoInt64S.i0_0, ltoInt64S.o0_0, ltoInt64S.r0_0, ltoInt64S.C0_0, ltoInt64S.M0_0, ltoInt64S.O0_0, ltoInt64S.Q0_0, ltoInt64S.L0_0 N⟩
def ltoInt64S.tb (N : Nat) : Tabs := ⟨tt, fun a b c => look3 a b c [], fun a b => look2 a b [(0, 0, ltoInt64S.G0_0 N)]⟩
theorem ltoInt64S.eq0_0 (N : Nat) (c : ltoInt64S.C0_0.D) (m : ltoInt64S.M0_0.D) : roundV (ltoInt64S.tb N) 0 Tryz.f187 0 ltoInt64S.i0_0 ltoInt64S.o0_0 ltoInt64S.r0_0 ltoInt64S.M0_0 ltoInt64S.O0_0 ltoInt64S.Q0_0 (unpack ltoInt64S.C0_0 c) m = (ltoInt64S.B0_0 N c m).map (withC (stays (unpack ltoInt64S.C0_0 c) [0]) (stays (unpack ltoInt64S.C0_0 c) []) (stays (unpack ltoInt64S.C0_0 c) [])) := by kernel_rfl
def ltoInt64S.S (N : Nat) : Sig := ⟨ltoInt64S.P, ltoInt64S.R, false, false, [true], false, ltoInt64S.F N⟩
theorem ltoInt64S.eq (N : Nat) (x : ltoInt64S.P.D) : topV (ltoInt64S.tb N) 0 Tryz.f187 [.d] ltoInt64S.P ltoInt64S.R false false [true] x = ltoInt64S.T N x := by kernel_rfl
theorem ltoInt64S.ok (N : Nat) : Sound Tryz.prog 187 [.d] (ltoInt64S.S N) := by
  have hs : SigsOK Tryz.prog (ltoInt64S.tb N) := sigs_of _ rfl trivial
  have g0 : Goods Tryz.prog (ltoInt64S.tb N) Tryz.f187 [] := goods_nil
  have g1 := goods_cons tabOK mixed rfl hs g0 0 (by kernel_rfl) (ltoInt64S.B0_0 N) N rfl (ltoInt64S.eq0_0 N)
  exact ok_of tabOK mixed rfl hs Tryz.func187 g1 (by kernel_rfl) rfl (ltoInt64S.eq N) (fun _ => rfl)
def ltoTask.tb (N : Nat) : Tabs := ⟨tt, fun a b c => look3 a b c [(0, 2, 2, CE.sig 186 [.d] (ltoLabel.S N)), (0, 8, 2, CE.sig 186 [.d] (ltoLabel.S N)), (0, 13, 2, CE.sig 187 [.d] (ltoInt64S.S N))], fun a b => look2 a b []⟩
def ltoTask.S (N : Nat) : Sig := ⟨ltoTask.P, ltoTask.R, false, false, [false, false, false, false, false, false, false, false, false, false, false, false, false, true], false, ltoTask.F N⟩
theorem ltoTask.eq (N : Nat) (x : ltoTask.P.D) : topV (ltoTask.tb N) 0 Tryz.f122 [.d] ltoTask.P ltoTask.R false false [false, false, false, false, false, false, false, false, false, false, false, false, false, true] x = ltoTask.T N x := by kernel_rfl
theorem ltoTask.ok (N : Nat) : Sound Tryz.prog 122 [.d] (ltoTask.S N) := by
  have hs : SigsOK Tryz.prog (ltoTask.tb N) := sigs_of _ rfl ⟨ltoLabel.ok N, ltoLabel.ok N, ltoInt64S.ok N, trivial⟩
  have g0 : Goods Tryz.prog (ltoTask.tb N) Tryz.f122 [] := goods_nil
  exact ok_of tabOK mixed rfl hs Tryz.func122 g0 (by kernel_rfl) rfl (ltoTask.eq N) (fun _ => rfl)
def ltoTaskS.i0_0 : Tmpl := ⟨1, 23, [0, 3, 4], [.d (some 0) T28, .row 1, .d none (.int .i64)], [.dead, .row none 129 T128]⟩
def ltoTaskS.o0_0 : Tmpl := ⟨1, 23, [3], [.row 1], [.dead, .row none 129 T128]⟩
def ltoTaskS.r0_0 : Tmpl := ⟨0, 0, [], [.d (some 9999) .unit], []⟩
def ltoTaskS.G0_0 (N : Nat) : Frag := ⟨ltoTaskS.i0_0, ltoTaskS.o0_0, ltoTaskS.r0_0, ltoTaskS.C0_0, ltoTaskS.M0_0, ltoTaskS.O0_0, ltoTaskS.Q0_0, ltoTaskS.L0_0 N⟩
def ltoTaskS.tb (N : Nat) : Tabs := ⟨tt, fun a b c => look3 a b c [(0, 5, 6, CE.sig 122 [.d] (ltoTask.S N))], fun a b => look2 a b [(0, 0, ltoTaskS.G0_0 N)]⟩
theorem ltoTaskS.eq0_0 (N : Nat) (c : ltoTaskS.C0_0.D) (m : ltoTaskS.M0_0.D) : roundV (ltoTaskS.tb N) 0 Tryz.f65 0 ltoTaskS.i0_0 ltoTaskS.o0_0 ltoTaskS.r0_0 ltoTaskS.M0_0 ltoTaskS.O0_0 ltoTaskS.Q0_0 (unpack ltoTaskS.C0_0 c) m = (ltoTaskS.B0_0 N c m).map (withC (stays (unpack ltoTaskS.C0_0 c) [0]) (stays (unpack ltoTaskS.C0_0 c) []) (stays (unpack ltoTaskS.C0_0 c) [])) := by kernel_rfl
def ltoTaskS.S (N : Nat) : Sig := ⟨ltoTaskS.P, ltoTaskS.R, false, false, [true], true, ltoTaskS.F N⟩
theorem ltoTaskS.eq (N : Nat) (x : ltoTaskS.P.D) : topV (ltoTaskS.tb N) 0 Tryz.f65 [.d] ltoTaskS.P ltoTaskS.R false false [true] x = ltoTaskS.T N x := by kernel_rfl
theorem ltoTaskS.ok (N : Nat) : Sound Tryz.prog 65 [.d] (ltoTaskS.S N) := by
  have hs : SigsOK Tryz.prog (ltoTaskS.tb N) := sigs_of _ rfl ⟨ltoTask.ok N, trivial⟩
  have g0 : Goods Tryz.prog (ltoTaskS.tb N) Tryz.f65 [] := goods_nil
  have g1 := goods_cons tabOK mixed rfl hs g0 0 (by kernel_rfl) (ltoTaskS.B0_0 N) N rfl (ltoTaskS.eq0_0 N)
  exact ok_of tabOK mixed rfl hs Tryz.func65 g1 (by kernel_rfl) rfl (ltoTaskS.eq N) (fun _ => rfl)
def ltoUse.tb (N : Nat) : Tabs := ⟨tt, fun a b c => look3 a b c [(0, 2, 2, CE.sig 186 [.d] (ltoLabel.S N))], fun a b => look2 a b []⟩
def ltoUse.S (N : Nat) : Sig := ⟨ltoUse.P, ltoUse.R, false, false, [], false, ltoUse.F N⟩
theorem ltoUse.eq (N : Nat) (x : ltoUse.P.D) : topV (ltoUse.tb N) 0 Tryz.f123 [.d] ltoUse.P ltoUse.R false false [] x = ltoUse.T N x := by kernel_rfl
theorem ltoUse.ok (N : Nat) : Sound Tryz.prog 123 [.d] (ltoUse.S N) := by
  have hs : SigsOK Tryz.prog (ltoUse.tb N) := sigs_of _ rfl ⟨ltoLabel.ok N, trivial⟩
  have g0 : Goods Tryz.prog (ltoUse.tb N) Tryz.f123 [] := goods_nil
  exact ok_of tabOK mixed rfl hs Tryz.func123 g0 (by kernel_rfl) rfl (ltoUse.eq N) (fun _ => rfl)
def ltoUseS.i0_0 : Tmpl := ⟨1, 23, [0, 3, 4], [.d (some 0) T29, .row 1, .d none (.int .i64)], [.dead, .row none 132 T131]⟩
def ltoUseS.o0_0 : Tmpl := ⟨1, 23, [3], [.row 1], [.dead, .row none 132 T131]⟩
def ltoUseS.r0_0 : Tmpl := ⟨0, 0, [], [.d (some 9999) .unit], []⟩
def ltoUseS.G0_0 (N : Nat) : Frag := ⟨ltoUseS.i0_0, ltoUseS.o0_0, ltoUseS.r0_0, ltoUseS.C0_0, ltoUseS.M0_0, ltoUseS.O0_0, ltoUseS.Q0_0, ltoUseS.L0_0 N⟩
def ltoUseS.tb (N : Nat) : Tabs := ⟨tt, fun a b c => look3 a b c [(0, 5, 6, CE.sig 123 [.d] (ltoUse.S N))], fun a b => look2 a b [(0, 0, ltoUseS.G0_0 N)]⟩
theorem ltoUseS.eq0_0 (N : Nat) (c : ltoUseS.C0_0.D) (m : ltoUseS.M0_0.D) : roundV (ltoUseS.tb N) 0 Tryz.f66 0 ltoUseS.i0_0 ltoUseS.o0_0 ltoUseS.r0_0 ltoUseS.M0_0 ltoUseS.O0_0 ltoUseS.Q0_0 (unpack ltoUseS.C0_0 c) m = (ltoUseS.B0_0 N c m).map (withC (stays (unpack ltoUseS.C0_0 c) [0]) (stays (unpack ltoUseS.C0_0 c) []) (stays (unpack ltoUseS.C0_0 c) [])) := by kernel_rfl
def ltoUseS.S (N : Nat) : Sig := ⟨ltoUseS.P, ltoUseS.R, false, false, [true], false, ltoUseS.F N⟩
theorem ltoUseS.eq (N : Nat) (x : ltoUseS.P.D) : topV (ltoUseS.tb N) 0 Tryz.f66 [.d] ltoUseS.P ltoUseS.R false false [true] x = ltoUseS.T N x := by kernel_rfl
theorem ltoUseS.ok (N : Nat) : Sound Tryz.prog 66 [.d] (ltoUseS.S N) := by
  have hs : SigsOK Tryz.prog (ltoUseS.tb N) := sigs_of _ rfl ⟨ltoUse.ok N, trivial⟩
  have g0 : Goods Tryz.prog (ltoUseS.tb N) Tryz.f66 [] := goods_nil
  have g1 := goods_cons tabOK mixed rfl hs g0 0 (by kernel_rfl) (ltoUseS.B0_0 N) N rfl (ltoUseS.eq0_0 N)
  exact ok_of tabOK mixed rfl hs Tryz.func66 g1 (by kernel_rfl) rfl (ltoUseS.eq N) (fun _ => rfl)
def ltoYard.tb (N : Nat) : Tabs := ⟨tt, fun a b c => look3 a b c [(0, 2, 2, CE.sig 63 [.d] (ltoConfig.S N)), (0, 3, 2, CE.sig 64 [.d] (ltoNodeS.S N)), (0, 4, 2, CE.sig 65 [.d] (ltoTaskS.S N)), (0, 5, 2, CE.sig 66 [.d] (ltoUseS.S N))], fun a b => look2 a b []⟩
def ltoYard.S (N : Nat) : Sig := ⟨ltoYard.P, ltoYard.R, false, false, [true, true, true, false, true, true, true], true, ltoYard.F N⟩
theorem ltoYard.eq (N : Nat) (x : ltoYard.P.D) : topV (ltoYard.tb N) 0 Tryz.f32 [.d] ltoYard.P ltoYard.R false false [true, true, true, false, true, true, true] x = ltoYard.T N x := by kernel_rfl
theorem ltoYard.ok (N : Nat) : Sound Tryz.prog 32 [.d] (ltoYard.S N) := by
  have hs : SigsOK Tryz.prog (ltoYard.tb N) := sigs_of _ rfl ⟨ltoConfig.ok N, ltoNodeS.ok N, ltoTaskS.ok N, ltoUseS.ok N, trivial⟩
  have g0 : Goods Tryz.prog (ltoYard.tb N) Tryz.f32 [] := goods_nil
  exact ok_of tabOK mixed rfl hs Tryz.func32 g0 (by kernel_rfl) rfl (ltoYard.eq N) (fun _ => rfl)
def ltoNote.tb (N : Nat) : Tabs := ⟨tt, fun a b c => look3 a b c [], fun a b => look2 a b []⟩
def ltoNote.S (N : Nat) : Sig := ⟨ltoNote.P, ltoNote.R, false, false, [], false, ltoNote.F N⟩
theorem ltoNote.eq (N : Nat) (x : ltoNote.P.D) : topV (ltoNote.tb N) 0 Tryz.f228 [.d] ltoNote.P ltoNote.R false false [] x = ltoNote.T N x := by kernel_rfl
theorem ltoNote.ok (N : Nat) : Sound Tryz.prog 228 [.d] (ltoNote.S N) := by
  have hs : SigsOK Tryz.prog (ltoNote.tb N) := sigs_of _ rfl trivial
  have g0 : Goods Tryz.prog (ltoNote.tb N) Tryz.f228 [] := goods_nil
  exact ok_of tabOK mixed rfl hs Tryz.func228 g0 (by kernel_rfl) rfl (ltoNote.eq N) (fun _ => rfl)
def ltoNoteS.i0_0 : Tmpl := ⟨1, 23, [0, 3, 4], [.d (some 0) T188, .row 1, .d none (.int .i64)], [.dead, .row none 103 T86]⟩
def ltoNoteS.o0_0 : Tmpl := ⟨1, 23, [3], [.row 1], [.dead, .row none 103 T86]⟩
def ltoNoteS.r0_0 : Tmpl := ⟨0, 0, [], [.d (some 9999) .unit], []⟩
def ltoNoteS.G0_0 (N : Nat) : Frag := ⟨ltoNoteS.i0_0, ltoNoteS.o0_0, ltoNoteS.r0_0, ltoNoteS.C0_0, ltoNoteS.M0_0, ltoNoteS.O0_0, ltoNoteS.Q0_0, ltoNoteS.L0_0 N⟩
def ltoNoteS.tb (N : Nat) : Tabs := ⟨tt, fun a b c => look3 a b c [(0, 5, 6, CE.sig 228 [.d] (ltoNote.S N))], fun a b => look2 a b [(0, 0, ltoNoteS.G0_0 N)]⟩
theorem ltoNoteS.eq0_0 (N : Nat) (c : ltoNoteS.C0_0.D) (m : ltoNoteS.M0_0.D) : roundV (ltoNoteS.tb N) 0 Tryz.f188 0 ltoNoteS.i0_0 ltoNoteS.o0_0 ltoNoteS.r0_0 ltoNoteS.M0_0 ltoNoteS.O0_0 ltoNoteS.Q0_0 (unpack ltoNoteS.C0_0 c) m = (ltoNoteS.B0_0 N c m).map (withC (stays (unpack ltoNoteS.C0_0 c) [0]) (stays (unpack ltoNoteS.C0_0 c) []) (stays (unpack ltoNoteS.C0_0 c) [])) := by kernel_rfl
def ltoNoteS.S (N : Nat) : Sig := ⟨ltoNoteS.P, ltoNoteS.R, false, false, [true], false, ltoNoteS.F N⟩
theorem ltoNoteS.eq (N : Nat) (x : ltoNoteS.P.D) : topV (ltoNoteS.tb N) 0 Tryz.f188 [.d] ltoNoteS.P ltoNoteS.R false false [true] x = ltoNoteS.T N x := by kernel_rfl
theorem ltoNoteS.ok (N : Nat) : Sound Tryz.prog 188 [.d] (ltoNoteS.S N) := by
  have hs : SigsOK Tryz.prog (ltoNoteS.tb N) := sigs_of _ rfl ⟨ltoNote.ok N, trivial⟩
  have g0 : Goods Tryz.prog (ltoNoteS.tb N) Tryz.f188 [] := goods_nil
  have g1 := goods_cons tabOK mixed rfl hs g0 0 (by kernel_rfl) (ltoNoteS.B0_0 N) N rfl (ltoNoteS.eq0_0 N)
  exact ok_of tabOK mixed rfl hs Tryz.func188 g1 (by kernel_rfl) rfl (ltoNoteS.eq N) (fun _ => rfl)
def ltoBox.tb (N : Nat) : Tabs := ⟨tt, fun a b c => look3 a b c [(0, 2, 2, CE.sig 187 [.d] (ltoInt64S.S N)), (0, 3, 2, CE.sig 187 [.d] (ltoInt64S.S N)), (0, 4, 2, CE.sig 188 [.d] (ltoNoteS.S N))], fun a b => look2 a b []⟩
def ltoBox.S (N : Nat) : Sig := ⟨ltoBox.P, ltoBox.R, false, false, [true, true, true], false, ltoBox.F N⟩
theorem ltoBox.eq (N : Nat) (x : ltoBox.P.D) : topV (ltoBox.tb N) 0 Tryz.f124 [.d] ltoBox.P ltoBox.R false false [true, true, true] x = ltoBox.T N x := by kernel_rfl
theorem ltoBox.ok (N : Nat) : Sound Tryz.prog 124 [.d] (ltoBox.S N) := by
  have hs : SigsOK Tryz.prog (ltoBox.tb N) := sigs_of _ rfl ⟨ltoInt64S.ok N, ltoInt64S.ok N, ltoNoteS.ok N, trivial⟩
  have g0 : Goods Tryz.prog (ltoBox.tb N) Tryz.f124 [] := goods_nil
  exact ok_of tabOK mixed rfl hs Tryz.func124 g0 (by kernel_rfl) rfl (ltoBox.eq N) (fun _ => rfl)
def ltoBoxS.i0_0 : Tmpl := ⟨1, 23, [0, 3, 4], [.d (some 0) T32, .row 1, .d none (.int .i64)], [.dead, .row none 92 T91]⟩
def ltoBoxS.o0_0 : Tmpl := ⟨1, 23, [3], [.row 1], [.dead, .row none 92 T91]⟩
def ltoBoxS.r0_0 : Tmpl := ⟨0, 0, [], [.d (some 9999) .unit], []⟩
def ltoBoxS.G0_0 (N : Nat) : Frag := ⟨ltoBoxS.i0_0, ltoBoxS.o0_0, ltoBoxS.r0_0, ltoBoxS.C0_0, ltoBoxS.M0_0, ltoBoxS.O0_0, ltoBoxS.Q0_0, ltoBoxS.L0_0 N⟩
def ltoBoxS.tb (N : Nat) : Tabs := ⟨tt, fun a b c => look3 a b c [(0, 5, 6, CE.sig 124 [.d] (ltoBox.S N))], fun a b => look2 a b [(0, 0, ltoBoxS.G0_0 N)]⟩
theorem ltoBoxS.eq0_0 (N : Nat) (c : ltoBoxS.C0_0.D) (m : ltoBoxS.M0_0.D) : roundV (ltoBoxS.tb N) 0 Tryz.f67 0 ltoBoxS.i0_0 ltoBoxS.o0_0 ltoBoxS.r0_0 ltoBoxS.M0_0 ltoBoxS.O0_0 ltoBoxS.Q0_0 (unpack ltoBoxS.C0_0 c) m = (ltoBoxS.B0_0 N c m).map (withC (stays (unpack ltoBoxS.C0_0 c) [0]) (stays (unpack ltoBoxS.C0_0 c) []) (stays (unpack ltoBoxS.C0_0 c) [])) := by kernel_rfl
def ltoBoxS.S (N : Nat) : Sig := ⟨ltoBoxS.P, ltoBoxS.R, false, false, [true], true, ltoBoxS.F N⟩
theorem ltoBoxS.eq (N : Nat) (x : ltoBoxS.P.D) : topV (ltoBoxS.tb N) 0 Tryz.f67 [.d] ltoBoxS.P ltoBoxS.R false false [true] x = ltoBoxS.T N x := by kernel_rfl
theorem ltoBoxS.ok (N : Nat) : Sound Tryz.prog 67 [.d] (ltoBoxS.S N) := by
  have hs : SigsOK Tryz.prog (ltoBoxS.tb N) := sigs_of _ rfl ⟨ltoBox.ok N, trivial⟩
  have g0 : Goods Tryz.prog (ltoBoxS.tb N) Tryz.f67 [] := goods_nil
  have g1 := goods_cons tabOK mixed rfl hs g0 0 (by kernel_rfl) (ltoBoxS.B0_0 N) N rfl (ltoBoxS.eq0_0 N)
  exact ok_of tabOK mixed rfl hs Tryz.func67 g1 (by kernel_rfl) rfl (ltoBoxS.eq N) (fun _ => rfl)
def ltoMail.tb (N : Nat) : Tabs := ⟨tt, fun a b c => look3 a b c [(0, 2, 2, CE.sig 67 [.d] (ltoBoxS.S N))], fun a b => look2 a b []⟩
def ltoMail.S (N : Nat) : Sig := ⟨ltoMail.P, ltoMail.R, false, false, [true], true, ltoMail.F N⟩
theorem ltoMail.eq (N : Nat) (x : ltoMail.P.D) : topV (ltoMail.tb N) 0 Tryz.f33 [.d] ltoMail.P ltoMail.R false false [true] x = ltoMail.T N x := by kernel_rfl
theorem ltoMail.ok (N : Nat) : Sound Tryz.prog 33 [.d] (ltoMail.S N) := by
  have hs : SigsOK Tryz.prog (ltoMail.tb N) := sigs_of _ rfl ⟨ltoBoxS.ok N, trivial⟩
  have g0 : Goods Tryz.prog (ltoMail.tb N) Tryz.f33 [] := goods_nil
  exact ok_of tabOK mixed rfl hs Tryz.func33 g0 (by kernel_rfl) rfl (ltoMail.eq N) (fun _ => rfl)
def ltoState.tb (N : Nat) : Tabs := ⟨tt, fun a b c => look3 a b c [(0, 2, 2, CE.sig 32 [.d] (ltoYard.S N)), (0, 3, 2, CE.sig 33 [.d] (ltoMail.S N))], fun a b => look2 a b []⟩
def ltoState.S (N : Nat) : Sig := ⟨ltoState.P, ltoState.R, false, false, [true, true, true, false, true, true, true, false, true], true, ltoState.F N⟩
theorem ltoState.eq (N : Nat) (x : ltoState.P.D) : topV (ltoState.tb N) 0 Tryz.f12 [.d] ltoState.P ltoState.R false false [true, true, true, false, true, true, true, false, true] x = ltoState.T N x := by kernel_rfl
theorem ltoState.ok (N : Nat) : Sound Tryz.prog 12 [.d] (ltoState.S N) := by
  have hs : SigsOK Tryz.prog (ltoState.tb N) := sigs_of _ rfl ⟨ltoYard.ok N, ltoMail.ok N, trivial⟩
  have g0 : Goods Tryz.prog (ltoState.tb N) Tryz.f12 [] := goods_nil
  exact ok_of tabOK mixed rfl hs Tryz.func12 g0 (by kernel_rfl) rfl (ltoState.eq N) (fun _ => rfl)
def ltoRegion.tb (N : Nat) : Tabs := ⟨tt, fun a b c => look3 a b c [], fun a b => look2 a b []⟩
def ltoRegion.S (N : Nat) : Sig := ⟨ltoRegion.P, ltoRegion.R, false, false, [], false, ltoRegion.F N⟩
theorem ltoRegion.eq (N : Nat) (x : ltoRegion.P.D) : topV (ltoRegion.tb N) 0 Tryz.f86 [.d] ltoRegion.P ltoRegion.R false false [] x = ltoRegion.T N x := by kernel_rfl
theorem ltoRegion.ok (N : Nat) : Sound Tryz.prog 86 [.d] (ltoRegion.S N) := by
  have hs : SigsOK Tryz.prog (ltoRegion.tb N) := sigs_of _ rfl trivial
  have g0 : Goods Tryz.prog (ltoRegion.tb N) Tryz.f86 [] := goods_nil
  exact ok_of tabOK mixed rfl hs Tryz.func86 g0 (by kernel_rfl) rfl (ltoRegion.eq N) (fun _ => rfl)
def ltoRegionS.i0_0 : Tmpl := ⟨1, 23, [0, 3, 4], [.d (some 0) T37, .row 1, .d none (.int .i64)], [.dead, .row none 105 T104]⟩
def ltoRegionS.o0_0 : Tmpl := ⟨1, 23, [3], [.row 1], [.dead, .row none 105 T104]⟩
def ltoRegionS.r0_0 : Tmpl := ⟨0, 0, [], [.d (some 9999) .unit], []⟩
def ltoRegionS.G0_0 (N : Nat) : Frag := ⟨ltoRegionS.i0_0, ltoRegionS.o0_0, ltoRegionS.r0_0, ltoRegionS.C0_0, ltoRegionS.M0_0, ltoRegionS.O0_0, ltoRegionS.Q0_0, ltoRegionS.L0_0 N⟩
def ltoRegionS.tb (N : Nat) : Tabs := ⟨tt, fun a b c => look3 a b c [(0, 5, 6, CE.sig 86 [.d] (ltoRegion.S N))], fun a b => look2 a b [(0, 0, ltoRegionS.G0_0 N)]⟩
theorem ltoRegionS.eq0_0 (N : Nat) (c : ltoRegionS.C0_0.D) (m : ltoRegionS.M0_0.D) : roundV (ltoRegionS.tb N) 0 Tryz.f42 0 ltoRegionS.i0_0 ltoRegionS.o0_0 ltoRegionS.r0_0 ltoRegionS.M0_0 ltoRegionS.O0_0 ltoRegionS.Q0_0 (unpack ltoRegionS.C0_0 c) m = (ltoRegionS.B0_0 N c m).map (withC (stays (unpack ltoRegionS.C0_0 c) [0]) (stays (unpack ltoRegionS.C0_0 c) []) (stays (unpack ltoRegionS.C0_0 c) [])) := by kernel_rfl
def ltoRegionS.S (N : Nat) : Sig := ⟨ltoRegionS.P, ltoRegionS.R, false, false, [true], false, ltoRegionS.F N⟩
theorem ltoRegionS.eq (N : Nat) (x : ltoRegionS.P.D) : topV (ltoRegionS.tb N) 0 Tryz.f42 [.d] ltoRegionS.P ltoRegionS.R false false [true] x = ltoRegionS.T N x := by kernel_rfl
theorem ltoRegionS.ok (N : Nat) : Sound Tryz.prog 42 [.d] (ltoRegionS.S N) := by
  have hs : SigsOK Tryz.prog (ltoRegionS.tb N) := sigs_of _ rfl ⟨ltoRegion.ok N, trivial⟩
  have g0 : Goods Tryz.prog (ltoRegionS.tb N) Tryz.f42 [] := goods_nil
  have g1 := goods_cons tabOK mixed rfl hs g0 0 (by kernel_rfl) (ltoRegionS.B0_0 N) N rfl (ltoRegionS.eq0_0 N)
  exact ok_of tabOK mixed rfl hs Tryz.func42 g1 (by kernel_rfl) rfl (ltoRegionS.eq N) (fun _ => rfl)
def ltoDisk.tb (N : Nat) : Tabs := ⟨tt, fun a b c => look3 a b c [(0, 2, 2, CE.sig 42 [.d] (ltoRegionS.S N))], fun a b => look2 a b []⟩
def ltoDisk.S (N : Nat) : Sig := ⟨ltoDisk.P, ltoDisk.R, false, false, [true], false, ltoDisk.F N⟩
theorem ltoDisk.eq (N : Nat) (x : ltoDisk.P.D) : topV (ltoDisk.tb N) 0 Tryz.f20 [.d] ltoDisk.P ltoDisk.R false false [true] x = ltoDisk.T N x := by kernel_rfl
theorem ltoDisk.ok (N : Nat) : Sound Tryz.prog 20 [.d] (ltoDisk.S N) := by
  have hs : SigsOK Tryz.prog (ltoDisk.tb N) := sigs_of _ rfl ⟨ltoRegionS.ok N, trivial⟩
  have g0 : Goods Tryz.prog (ltoDisk.tb N) Tryz.f20 [] := goods_nil
  exact ok_of tabOK mixed rfl hs Tryz.func20 g0 (by kernel_rfl) rfl (ltoDisk.eq N) (fun _ => rfl)
def ltoHouse.tb (N : Nat) : Tabs := ⟨tt, fun a b c => look3 a b c [(0, 2, 2, CE.sig 12 [.d] (ltoState.S N)), (0, 3, 2, CE.sig 20 [.d] (ltoDisk.S N))], fun a b => look2 a b []⟩
def ltoHouse.S (N : Nat) : Sig := ⟨ltoHouse.P, ltoHouse.R, false, false, [true, true, true, false, true, true, true, false, true, true], true, ltoHouse.F N⟩
theorem ltoHouse.eq (N : Nat) (x : ltoHouse.P.D) : topV (ltoHouse.tb N) 0 Tryz.f7 [.d] ltoHouse.P ltoHouse.R false false [true, true, true, false, true, true, true, false, true, true] x = ltoHouse.T N x := by kernel_rfl
theorem ltoHouse.ok (N : Nat) : Sound Tryz.prog 7 [.d] (ltoHouse.S N) := by
  have hs : SigsOK Tryz.prog (ltoHouse.tb N) := sigs_of _ rfl ⟨ltoState.ok N, ltoDisk.ok N, trivial⟩
  have g0 : Goods Tryz.prog (ltoHouse.tb N) Tryz.f7 [] := goods_nil
  exact ok_of tabOK mixed rfl hs Tryz.func7 g0 (by kernel_rfl) rfl (ltoHouse.eq N) (fun _ => rfl)
def sl02Is.tb (N : Nat) : Tabs := ⟨tt, fun a b c => look3 a b c [], fun a b => look2 a b []⟩
def sl02Is.S (N : Nat) : Sig := ⟨sl02Is.P, sl02Is.R, false, false, [], false, sl02Is.F N⟩
theorem sl02Is.eq (N : Nat) (x : sl02Is.P.D) : topV (sl02Is.tb N) 0 Tryz.f41 [.d, .d, .d] sl02Is.P sl02Is.R false false [] x = sl02Is.T N x := by kernel_rfl
theorem sl02Is.ok (N : Nat) : Sound Tryz.prog 41 [.d, .d, .d] (sl02Is.S N) := by
  have hs : SigsOK Tryz.prog (sl02Is.tb N) := sigs_of _ rfl trivial
  have g0 : Goods Tryz.prog (sl02Is.tb N) Tryz.f41 [] := goods_nil
  exact ok_of tabOK mixed rfl hs Tryz.func41 g0 (by kernel_rfl) rfl (sl02Is.eq N) (fun _ => rfl)
def sl03Now.tb (N : Nat) : Tabs := ⟨tt, fun a b c => look3 a b c [(0, 1, 1, CE.sig 41 [.d, .d, .d] (sl02Is.S N))], fun a b => look2 a b []⟩
def sl03Now.S (N : Nat) : Sig := ⟨sl03Now.P, sl03Now.R, false, false, [], false, sl03Now.F N⟩
theorem sl03Now.eq (N : Nat) (x : sl03Now.P.D) : topV (sl03Now.tb N) 0 Tryz.f78 [.d] sl03Now.P sl03Now.R false false [] x = sl03Now.T N x := by kernel_rfl
theorem sl03Now.ok (N : Nat) : Sound Tryz.prog 78 [.d] (sl03Now.S N) := by
  have hs : SigsOK Tryz.prog (sl03Now.tb N) := sigs_of _ rfl ⟨sl02Is.ok N, trivial⟩
  have g0 : Goods Tryz.prog (sl03Now.tb N) Tryz.f78 [] := goods_nil
  exact ok_of tabOK mixed rfl hs Tryz.func78 g0 (by kernel_rfl) rfl (sl03Now.eq N) (fun _ => rfl)
def sLabelRight.tb (N : Nat) : Tabs := ⟨tt, fun a b c => look3 a b c [(0, 1, 2, CE.sig 41 [.d, .d, .d] (sl02Is.S N)), (0, 1, 6, CE.sig 41 [.d, .d, .d] (sl02Is.S N))], fun a b => look2 a b []⟩
def sLabelRight.S (N : Nat) : Sig := ⟨sLabelRight.P, sLabelRight.R, false, false, [], false, sLabelRight.F N⟩
theorem sLabelRight.eq (N : Nat) (x : sLabelRight.P.D) : topV (sLabelRight.tb N) 0 Tryz.f141 [.d] sLabelRight.P sLabelRight.R false false [] x = sLabelRight.T N x := by kernel_rfl
theorem sLabelRight.ok (N : Nat) : Sound Tryz.prog 141 [.d] (sLabelRight.S N) := by
  have hs : SigsOK Tryz.prog (sLabelRight.tb N) := sigs_of _ rfl ⟨sl02Is.ok N, sl02Is.ok N, trivial⟩
  have g0 : Goods Tryz.prog (sLabelRight.tb N) Tryz.f141 [] := goods_nil
  exact ok_of tabOK mixed rfl hs Tryz.func141 g0 (by kernel_rfl) rfl (sLabelRight.eq N) (fun _ => rfl)
def sl02Below.tb (N : Nat) : Tabs := ⟨tt, fun a b c => look3 a b c [], fun a b => look2 a b []⟩
def sl02Below.S (N : Nat) : Sig := ⟨sl02Below.P, sl02Below.R, false, false, [], false, sl02Below.F N⟩
theorem sl02Below.eq (N : Nat) (x : sl02Below.P.D) : topV (sl02Below.tb N) 0 Tryz.f198 [.d, .d] sl02Below.P sl02Below.R false false [] x = sl02Below.T N x := by kernel_rfl
theorem sl02Below.ok (N : Nat) : Sound Tryz.prog 198 [.d, .d] (sl02Below.S N) := by
  have hs : SigsOK Tryz.prog (sl02Below.tb N) := sigs_of _ rfl trivial
  have g0 : Goods Tryz.prog (sl02Below.tb N) Tryz.f198 [] := goods_nil
  exact ok_of tabOK mixed rfl hs Tryz.func198 g0 (by kernel_rfl) rfl (sl02Below.eq N) (fun _ => rfl)
def sChain.i0_0 : Tmpl := ⟨0, 53, [0, 3], [.d (some 0) T82, .d none (.int .i64)], []⟩
def sChain.o0_0 : Tmpl := ⟨0, 53, [], [], []⟩
def sChain.r0_0 : Tmpl := ⟨0, 53, [2], [.d none .bool], []⟩
def sChain.G0_0 (N : Nat) : Frag := ⟨sChain.i0_0, sChain.o0_0, sChain.r0_0, sChain.C0_0, sChain.M0_0, sChain.O0_0, sChain.Q0_0, sChain.L0_0 N⟩
def sChain.tb (N : Nat) : Tabs := ⟨tt, fun a b c => look3 a b c [(0, 6, 4, CE.sig 141 [.d] (sLabelRight.S N)), (0, 6, 19, CE.sig 198 [.d, .d] (sl02Below.S N))], fun a b => look2 a b [(0, 0, sChain.G0_0 N)]⟩
theorem sChain.eq0_0 (N : Nat) (c : sChain.C0_0.D) (m : sChain.M0_0.D) : roundV (sChain.tb N) 0 Tryz.f197 0 sChain.i0_0 sChain.o0_0 sChain.r0_0 sChain.M0_0 sChain.O0_0 sChain.Q0_0 (unpack sChain.C0_0 c) m = (sChain.B0_0 N c m).map (withC (stays (unpack sChain.C0_0 c) [0]) (stays (unpack sChain.C0_0 c) []) (stays (unpack sChain.C0_0 c) [])) := by kernel_rfl
def sChain.S (N : Nat) : Sig := ⟨sChain.P, sChain.R, false, false, [], false, sChain.F N⟩
theorem sChain.eq (N : Nat) (x : sChain.P.D) : topV (sChain.tb N) 0 Tryz.f197 [.d] sChain.P sChain.R false false [] x = sChain.T N x := by kernel_rfl
theorem sChain.ok (N : Nat) : Sound Tryz.prog 197 [.d] (sChain.S N) := by
  have hs : SigsOK Tryz.prog (sChain.tb N) := sigs_of _ rfl ⟨sLabelRight.ok N, sl02Below.ok N, trivial⟩
  have g0 : Goods Tryz.prog (sChain.tb N) Tryz.f197 [] := goods_nil
  have g1 := goods_cons tabOK mixed rfl hs g0 0 (by kernel_rfl) (sChain.B0_0 N) N rfl (sChain.eq0_0 N)
  exact ok_of tabOK mixed rfl hs Tryz.func197 g1 (by kernel_rfl) rfl (sChain.eq N) (fun _ => rfl)
def sl05Clear.i0_0 : Tmpl := ⟨0, 28, [0, 3], [.d (some 0) T44, .d none (.int .i64)], []⟩
def sl05Clear.o0_0 : Tmpl := ⟨0, 28, [0], [.d (some 0) T44], []⟩
def sl05Clear.r0_0 : Tmpl := ⟨0, 28, [2], [.d none .bool], []⟩
def sl05Clear.G0_0 (N : Nat) : Frag := ⟨sl05Clear.i0_0, sl05Clear.o0_0, sl05Clear.r0_0, sl05Clear.C0_0, sl05Clear.M0_0, sl05Clear.O0_0, sl05Clear.Q0_0, sl05Clear.L0_0 N⟩
def sl05Clear.tb (N : Nat) : Tabs := ⟨tt, fun a b c => look3 a b c [(0, 4, 4, CE.sig 197 [.d] (sChain.S N))], fun a b => look2 a b [(0, 0, sl05Clear.G0_0 N)]⟩
theorem sl05Clear.eq0_0 (N : Nat) (c : sl05Clear.C0_0.D) (m : sl05Clear.M0_0.D) : roundV (sl05Clear.tb N) 0 Tryz.f134 0 sl05Clear.i0_0 sl05Clear.o0_0 sl05Clear.r0_0 sl05Clear.M0_0 sl05Clear.O0_0 sl05Clear.Q0_0 (unpack sl05Clear.C0_0 c) m = (sl05Clear.B0_0 N c m).map (withC (stays (unpack sl05Clear.C0_0 c) [0]) (stays (unpack sl05Clear.C0_0 c) [0]) (stays (unpack sl05Clear.C0_0 c) [])) := by kernel_rfl
def sl05Clear.S (N : Nat) : Sig := ⟨sl05Clear.P, sl05Clear.R, false, false, [], false, sl05Clear.F N⟩
theorem sl05Clear.eq (N : Nat) (x : sl05Clear.P.D) : topV (sl05Clear.tb N) 0 Tryz.f134 [.d] sl05Clear.P sl05Clear.R false false [] x = sl05Clear.T N x := by kernel_rfl
theorem sl05Clear.ok (N : Nat) : Sound Tryz.prog 134 [.d] (sl05Clear.S N) := by
  have hs : SigsOK Tryz.prog (sl05Clear.tb N) := sigs_of _ rfl ⟨sChain.ok N, trivial⟩
  have g0 : Goods Tryz.prog (sl05Clear.tb N) Tryz.f134 [] := goods_nil
  have g1 := goods_cons tabOK mixed rfl hs g0 0 (by kernel_rfl) (sl05Clear.B0_0 N) N rfl (sl05Clear.eq0_0 N)
  exact ok_of tabOK mixed rfl hs Tryz.func134 g1 (by kernel_rfl) rfl (sl05Clear.eq N) (fun _ => rfl)
def sl05Cleared.i0_0 : Tmpl := ⟨1, 18, [0, 3, 5], [.d (some 0) T82, .cp 0 0, .d none (.int .i64)], [.cells [.d (some 1) (.int .i64), .d (some 2) (.int .i64)]]⟩
def sl05Cleared.o0_0 : Tmpl := ⟨1, 18, [], [], [.dead]⟩
def sl05Cleared.r0_0 : Tmpl := ⟨1, 18, [4], [.d none .bool], [.dead]⟩
def sl05Cleared.G0_0 (N : Nat) : Frag := ⟨sl05Cleared.i0_0, sl05Cleared.o0_0, sl05Cleared.r0_0, sl05Cleared.C0_0, sl05Cleared.M0_0, sl05Cleared.O0_0, sl05Cleared.Q0_0, sl05Cleared.L0_0 N⟩
def sl05Cleared.tb (N : Nat) : Tabs := ⟨tt, fun a b c => look3 a b c [], fun a b => look2 a b [(0, 0, sl05Cleared.G0_0 N)]⟩
theorem sl05Cleared.eq0_0 (N : Nat) (c : sl05Cleared.C0_0.D) (m : sl05Cleared.M0_0.D) : roundV (sl05Cleared.tb N) 0 Tryz.f58 0 sl05Cleared.i0_0 sl05Cleared.o0_0 sl05Cleared.r0_0 sl05Cleared.M0_0 sl05Cleared.O0_0 sl05Cleared.Q0_0 (unpack sl05Cleared.C0_0 c) m = (sl05Cleared.B0_0 N c m).map (withC (stays (unpack sl05Cleared.C0_0 c) [0, 1, 2]) (stays (unpack sl05Cleared.C0_0 c) []) (stays (unpack sl05Cleared.C0_0 c) [])) := by kernel_rfl
def sl05Cleared.S (N : Nat) : Sig := ⟨sl05Cleared.P, sl05Cleared.R, false, false, [], false, sl05Cleared.F N⟩
theorem sl05Cleared.eq (N : Nat) (x : sl05Cleared.P.D) : topV (sl05Cleared.tb N) 0 Tryz.f58 [.d, .d] sl05Cleared.P sl05Cleared.R false false [] x = sl05Cleared.T N x := by kernel_rfl
theorem sl05Cleared.ok (N : Nat) : Sound Tryz.prog 58 [.d, .d] (sl05Cleared.S N) := by
  have hs : SigsOK Tryz.prog (sl05Cleared.tb N) := sigs_of _ rfl trivial
  have g0 : Goods Tryz.prog (sl05Cleared.tb N) Tryz.f58 [] := goods_nil
  have g1 := goods_cons tabOK mixed rfl hs g0 0 (by kernel_rfl) (sl05Cleared.B0_0 N) N rfl (sl05Cleared.eq0_0 N)
  exact ok_of tabOK mixed rfl hs Tryz.func58 g1 (by kernel_rfl) rfl (sl05Cleared.eq N) (fun _ => rfl)
def sl09Labels.i0_4 : Tmpl := ⟨3, 39, [0, 3, 4, 5, 6, 7], [.d (some 0) T44, .row 3, .d (some 1) (.int .i64), .cp 2 0, .d none .bool, .d none (.int .i64)], [.dead, .dead, .cells [.d (some 2) (.int .i64), .d (some 3) (.int .i64)], .row (some 4) 87 T86]⟩
def sl09Labels.o0_4 : Tmpl := ⟨3, 39, [0, 3, 4, 5, 6], [.d (some 0) T44, .row 3, .d (some 1) (.int .i64), .cp 2 0, .d none .bool], [.dead, .dead, .cells [.d (some 2) (.int .i64), .d (some 3) (.int .i64)], .row (some 4) 87 T86]⟩
def sl09Labels.r0_4 : Tmpl := ⟨0, 0, [], [.d (some 9999) .unit], []⟩
def sl09Labels.G0_4 (N : Nat) : Frag := ⟨sl09Labels.i0_4, sl09Labels.o0_4, sl09Labels.r0_4, sl09Labels.C0_4, sl09Labels.M0_4, sl09Labels.O0_4, sl09Labels.Q0_4, sl09Labels.L0_4 N⟩
def sl09Labels.i0_0 : Tmpl := ⟨1, 39, [0, 3, 4], [.d (some 0) T44, .row 1, .d none (.int .i64)], [.dead, .row none 87 T86]⟩
def sl09Labels.o0_0 : Tmpl := ⟨1, 39, [3], [.row 1], [.dead, .row none 87 T86]⟩
def sl09Labels.r0_0 : Tmpl := ⟨0, 0, [], [.d (some 9999) .unit], []⟩
def sl09Labels.G0_0 (N : Nat) : Frag := ⟨sl09Labels.i0_0, sl09Labels.o0_0, sl09Labels.r0_0, sl09Labels.C0_0, sl09Labels.M0_0, sl09Labels.O0_0, sl09Labels.Q0_0, sl09Labels.L0_0 N⟩
def sl09Labels.tb (N : Nat) : Tabs := ⟨tt, fun a b c => look3 a b c [(0, 10, 7, CE.sig 58 [.d, .d] (sl05Cleared.S N))], fun a b => look2 a b [(0, 4, sl09Labels.G0_4 N), (0, 0, sl09Labels.G0_0 N)]⟩
theorem sl09Labels.eq0_4 (N : Nat) (c : sl09Labels.C0_4.D) (m : sl09Labels.M0_4.D) : roundV (sl09Labels.tb N) 0 Tryz.f28 2 sl09Labels.i0_4 sl09Labels.o0_4 sl09Labels.r0_4 sl09Labels.M0_4 sl09Labels.O0_4 sl09Labels.Q0_4 (unpack sl09Labels.C0_4 c) m = (sl09Labels.B0_4 N c m).map (withC (stays (unpack sl09Labels.C0_4 c) [0, 1, 2, 3, 4]) (stays (unpack sl09Labels.C0_4 c) [0, 1, 2, 3, 4]) (stays (unpack sl09Labels.C0_4 c) [])) := by kernel_rfl
theorem sl09Labels.eq0_0 (N : Nat) (c : sl09Labels.C0_0.D) (m : sl09Labels.M0_0.D) : roundV (sl09Labels.tb N) 0 Tryz.f28 0 sl09Labels.i0_0 sl09Labels.o0_0 sl09Labels.r0_0 sl09Labels.M0_0 sl09Labels.O0_0 sl09Labels.Q0_0 (unpack sl09Labels.C0_0 c) m = (sl09Labels.B0_0 N c m).map (withC (stays (unpack sl09Labels.C0_0 c) [0]) (stays (unpack sl09Labels.C0_0 c) []) (stays (unpack sl09Labels.C0_0 c) [])) := by kernel_rfl
def sl09Labels.S (N : Nat) : Sig := ⟨sl09Labels.P, sl09Labels.R, false, false, [true], false, sl09Labels.F N⟩
theorem sl09Labels.eq (N : Nat) (x : sl09Labels.P.D) : topV (sl09Labels.tb N) 0 Tryz.f28 [.d] sl09Labels.P sl09Labels.R false false [true] x = sl09Labels.T N x := by kernel_rfl
theorem sl09Labels.ok (N : Nat) : Sound Tryz.prog 28 [.d] (sl09Labels.S N) := by
  have hs : SigsOK Tryz.prog (sl09Labels.tb N) := sigs_of _ rfl ⟨sl05Cleared.ok N, trivial⟩
  have g0 : Goods Tryz.prog (sl09Labels.tb N) Tryz.f28 [] := goods_nil
  have g1 := goods_cons tabOK mixed rfl hs g0 2 (by kernel_rfl) (sl09Labels.B0_4 N) N rfl (sl09Labels.eq0_4 N)
  have g2 := goods_cons tabOK mixed rfl hs g1 0 (by kernel_rfl) (sl09Labels.B0_0 N) N rfl (sl09Labels.eq0_0 N)
  exact ok_of tabOK mixed rfl hs Tryz.func28 g2 (by kernel_rfl) rfl (sl09Labels.eq N) (fun _ => rfl)
def sl09Pairs.i0_4 : Tmpl := ⟨1, 69, [0, 1, 5, 6, 7], [.d (some 0) T82, .d (some 1) T45, .d (some 2) (.int .i64), .cp 0 0, .d none (.int .i64)], [.cells [.d (some 3) (.int .i64), .d (some 4) (.int .i64), .d (some 5) (.int .i64), .d (some 6) (.int .i64), .d (some 7) (.int .i64)]]⟩
def sl09Pairs.o0_4 : Tmpl := ⟨1, 69, [0, 1, 5], [.d (some 0) T82, .d (some 1) T45, .d (some 2) (.int .i64)], [.dead]⟩
def sl09Pairs.r0_4 : Tmpl := ⟨1, 69, [4], [.d none .bool], [.dead]⟩
def sl09Pairs.G0_4 (N : Nat) : Frag := ⟨sl09Pairs.i0_4, sl09Pairs.o0_4, sl09Pairs.r0_4, sl09Pairs.C0_4, sl09Pairs.M0_4, sl09Pairs.O0_4, sl09Pairs.Q0_4, sl09Pairs.L0_4 N⟩
def sl09Pairs.i0_0 : Tmpl := ⟨0, 69, [0, 1, 5], [.d (some 0) T82, .d (some 1) T45, .d none (.int .i64)], []⟩
def sl09Pairs.o0_0 : Tmpl := ⟨0, 69, [], [], []⟩
def sl09Pairs.r0_0 : Tmpl := ⟨0, 69, [4], [.d none .bool], []⟩
def sl09Pairs.G0_0 (N : Nat) : Frag := ⟨sl09Pairs.i0_0, sl09Pairs.o0_0, sl09Pairs.r0_0, sl09Pairs.C0_0, sl09Pairs.M0_0, sl09Pairs.O0_0, sl09Pairs.Q0_0, sl09Pairs.L0_0 N⟩
def sl09Pairs.tb (N : Nat) : Tabs := ⟨tt, fun a b c => look3 a b c [(0, 7, 3, CE.sig 58 [.d, .d] (sl05Cleared.S N)), (0, 7, 9, CE.sig 58 [.d, .d] (sl05Cleared.S N)), (0, 7, 17, CE.sig 198 [.d, .d] (sl02Below.S N)), (0, 7, 22, CE.sig 41 [.d, .d, .d] (sl02Is.S N))], fun a b => look2 a b [(0, 4, sl09Pairs.G0_4 N), (0, 0, sl09Pairs.G0_0 N)]⟩
theorem sl09Pairs.eq0_4 (N : Nat) (c : sl09Pairs.C0_4.D) (m : sl09Pairs.M0_4.D) : roundV (sl09Pairs.tb N) 0 Tryz.f135 2 sl09Pairs.i0_4 sl09Pairs.o0_4 sl09Pairs.r0_4 sl09Pairs.M0_4 sl09Pairs.O0_4 sl09Pairs.Q0_4 (unpack sl09Pairs.C0_4 c) m = (sl09Pairs.B0_4 N c m).map (withC (stays (unpack sl09Pairs.C0_4 c) [0, 1, 2, 3, 4, 5, 6, 7]) (stays (unpack sl09Pairs.C0_4 c) [0, 1, 2]) (stays (unpack sl09Pairs.C0_4 c) [])) := by kernel_rfl
theorem sl09Pairs.eq0_0 (N : Nat) (c : sl09Pairs.C0_0.D) (m : sl09Pairs.M0_0.D) : roundV (sl09Pairs.tb N) 0 Tryz.f135 0 sl09Pairs.i0_0 sl09Pairs.o0_0 sl09Pairs.r0_0 sl09Pairs.M0_0 sl09Pairs.O0_0 sl09Pairs.Q0_0 (unpack sl09Pairs.C0_0 c) m = (sl09Pairs.B0_0 N c m).map (withC (stays (unpack sl09Pairs.C0_0 c) [0, 1]) (stays (unpack sl09Pairs.C0_0 c) []) (stays (unpack sl09Pairs.C0_0 c) [])) := by kernel_rfl
def sl09Pairs.S (N : Nat) : Sig := ⟨sl09Pairs.P, sl09Pairs.R, false, false, [], false, sl09Pairs.F N⟩
theorem sl09Pairs.eq (N : Nat) (x : sl09Pairs.P.D) : topV (sl09Pairs.tb N) 0 Tryz.f135 [.d, .d] sl09Pairs.P sl09Pairs.R false false [] x = sl09Pairs.T N x := by kernel_rfl
theorem sl09Pairs.ok (N : Nat) : Sound Tryz.prog 135 [.d, .d] (sl09Pairs.S N) := by
  have hs : SigsOK Tryz.prog (sl09Pairs.tb N) := sigs_of _ rfl ⟨sl05Cleared.ok N, sl05Cleared.ok N, sl02Below.ok N, sl02Is.ok N, trivial⟩
  have g0 : Goods Tryz.prog (sl09Pairs.tb N) Tryz.f135 [] := goods_nil
  have g1 := goods_cons tabOK mixed rfl hs g0 2 (by kernel_rfl) (sl09Pairs.B0_4 N) N rfl (sl09Pairs.eq0_4 N)
  have g2 := goods_cons tabOK mixed rfl hs g1 0 (by kernel_rfl) (sl09Pairs.B0_0 N) N rfl (sl09Pairs.eq0_0 N)
  exact ok_of tabOK mixed rfl hs Tryz.func135 g2 (by kernel_rfl) rfl (sl09Pairs.eq N) (fun _ => rfl)
def sl09Ord.tb (N : Nat) : Tabs := ⟨tt, fun a b c => look3 a b c [], fun a b => look2 a b []⟩
def sl09Ord.S (N : Nat) : Sig := ⟨sl09Ord.P, sl09Ord.R, false, false, [], false, sl09Ord.F N⟩
theorem sl09Ord.eq (N : Nat) (x : sl09Ord.P.D) : topV (sl09Ord.tb N) 0 Tryz.f139 [.d] sl09Ord.P sl09Ord.R false false [] x = sl09Ord.T N x := by kernel_rfl
theorem sl09Ord.ok (N : Nat) : Sound Tryz.prog 139 [.d] (sl09Ord.S N) := by
  have hs : SigsOK Tryz.prog (sl09Ord.tb N) := sigs_of _ rfl trivial
  have g0 : Goods Tryz.prog (sl09Ord.tb N) Tryz.f139 [] := goods_nil
  exact ok_of tabOK mixed rfl hs Tryz.func139 g0 (by kernel_rfl) rfl (sl09Ord.eq N) (fun _ => rfl)
def sl09Quotas.i0_0 : Tmpl := ⟨0, 52, [0, 1, 5], [.d (some 0) T82, .d (some 1) T46, .d none (.int .i64)], []⟩
def sl09Quotas.o0_0 : Tmpl := ⟨0, 52, [], [], []⟩
def sl09Quotas.r0_0 : Tmpl := ⟨0, 52, [4], [.d none .bool], []⟩
def sl09Quotas.G0_0 (N : Nat) : Frag := ⟨sl09Quotas.i0_0, sl09Quotas.o0_0, sl09Quotas.r0_0, sl09Quotas.C0_0, sl09Quotas.M0_0, sl09Quotas.O0_0, sl09Quotas.Q0_0, sl09Quotas.L0_0 N⟩
def sl09Quotas.tb (N : Nat) : Tabs := ⟨tt, fun a b c => look3 a b c [(0, 6, 6, CE.sig 58 [.d, .d] (sl05Cleared.S N)), (0, 6, 14, CE.sig 41 [.d, .d, .d] (sl02Is.S N)), (0, 6, 27, CE.sig 139 [.d] (sl09Ord.S N)), (0, 6, 33, CE.sig 139 [.d] (sl09Ord.S N))], fun a b => look2 a b [(0, 0, sl09Quotas.G0_0 N)]⟩
theorem sl09Quotas.eq0_0 (N : Nat) (c : sl09Quotas.C0_0.D) (m : sl09Quotas.M0_0.D) : roundV (sl09Quotas.tb N) 0 Tryz.f136 0 sl09Quotas.i0_0 sl09Quotas.o0_0 sl09Quotas.r0_0 sl09Quotas.M0_0 sl09Quotas.O0_0 sl09Quotas.Q0_0 (unpack sl09Quotas.C0_0 c) m = (sl09Quotas.B0_0 N c m).map (withC (stays (unpack sl09Quotas.C0_0 c) [0, 1]) (stays (unpack sl09Quotas.C0_0 c) []) (stays (unpack sl09Quotas.C0_0 c) [])) := by kernel_rfl
def sl09Quotas.S (N : Nat) : Sig := ⟨sl09Quotas.P, sl09Quotas.R, false, false, [], false, sl09Quotas.F N⟩
theorem sl09Quotas.eq (N : Nat) (x : sl09Quotas.P.D) : topV (sl09Quotas.tb N) 0 Tryz.f136 [.d, .d] sl09Quotas.P sl09Quotas.R false false [] x = sl09Quotas.T N x := by kernel_rfl
theorem sl09Quotas.ok (N : Nat) : Sound Tryz.prog 136 [.d, .d] (sl09Quotas.S N) := by
  have hs : SigsOK Tryz.prog (sl09Quotas.tb N) := sigs_of _ rfl ⟨sl05Cleared.ok N, sl02Is.ok N, sl09Ord.ok N, sl09Ord.ok N, trivial⟩
  have g0 : Goods Tryz.prog (sl09Quotas.tb N) Tryz.f136 [] := goods_nil
  have g1 := goods_cons tabOK mixed rfl hs g0 0 (by kernel_rfl) (sl09Quotas.B0_0 N) N rfl (sl09Quotas.eq0_0 N)
  exact ok_of tabOK mixed rfl hs Tryz.func136 g1 (by kernel_rfl) rfl (sl09Quotas.eq N) (fun _ => rfl)
def sConfigRight.tb (N : Nat) : Tabs := ⟨tt, fun a b c => look3 a b c [(0, 1, 2, CE.sig 134 [.d] (sl05Clear.S N)), (0, 1, 7, CE.sig 41 [.d, .d, .d] (sl02Is.S N)), (0, 3, 2, CE.sig 28 [.d] (sl09Labels.S N)), (0, 4, 7, CE.sig 135 [.d, .d] (sl09Pairs.S N)), (0, 4, 13, CE.sig 136 [.d, .d] (sl09Quotas.S N))], fun a b => look2 a b []⟩
def sConfigRight.S (N : Nat) : Sig := ⟨sConfigRight.P, sConfigRight.R, false, false, [], false, sConfigRight.F N⟩
theorem sConfigRight.eq (N : Nat) (x : sConfigRight.P.D) : topV (sConfigRight.tb N) 0 Tryz.f79 [.d] sConfigRight.P sConfigRight.R false false [] x = sConfigRight.T N x := by kernel_rfl
theorem sConfigRight.ok (N : Nat) : Sound Tryz.prog 79 [.d] (sConfigRight.S N) := by
  have hs : SigsOK Tryz.prog (sConfigRight.tb N) := sigs_of _ rfl ⟨sl05Clear.ok N, sl02Is.ok N, sl09Labels.ok N, sl09Pairs.ok N, sl09Quotas.ok N, trivial⟩
  have g0 : Goods Tryz.prog (sConfigRight.tb N) Tryz.f79 [] := goods_nil
  exact ok_of tabOK mixed rfl hs Tryz.func79 g0 (by kernel_rfl) rfl (sConfigRight.eq N) (fun _ => rfl)
def sl10State.tb (N : Nat) : Tabs := ⟨tt, fun a b c => look3 a b c [(0, 1, 1, CE.sig 41 [.d, .d, .d] (sl02Is.S N))], fun a b => look2 a b []⟩
def sl10State.S (N : Nat) : Sig := ⟨sl10State.P, sl10State.R, false, false, [], false, sl10State.F N⟩
theorem sl10State.eq (N : Nat) (x : sl10State.P.D) : topV (sl10State.tb N) 0 Tryz.f137 [.d] sl10State.P sl10State.R false false [] x = sl10State.T N x := by kernel_rfl
theorem sl10State.ok (N : Nat) : Sound Tryz.prog 137 [.d] (sl10State.S N) := by
  have hs : SigsOK Tryz.prog (sl10State.tb N) := sigs_of _ rfl ⟨sl02Is.ok N, trivial⟩
  have g0 : Goods Tryz.prog (sl10State.tb N) Tryz.f137 [] := goods_nil
  exact ok_of tabOK mixed rfl hs Tryz.func137 g0 (by kernel_rfl) rfl (sl10State.eq N) (fun _ => rfl)
def sl02Time.tb (N : Nat) : Tabs := ⟨tt, fun a b c => look3 a b c [(0, 1, 1, CE.sig 41 [.d, .d, .d] (sl02Is.S N))], fun a b => look2 a b []⟩
def sl02Time.S (N : Nat) : Sig := ⟨sl02Time.P, sl02Time.R, false, false, [], false, sl02Time.F N⟩
theorem sl02Time.eq (N : Nat) (x : sl02Time.P.D) : topV (sl02Time.tb N) 0 Tryz.f19 [.d] sl02Time.P sl02Time.R false false [] x = sl02Time.T N x := by kernel_rfl
theorem sl02Time.ok (N : Nat) : Sound Tryz.prog 19 [.d] (sl02Time.S N) := by
  have hs : SigsOK Tryz.prog (sl02Time.tb N) := sigs_of _ rfl ⟨sl02Is.ok N, trivial⟩
  have g0 : Goods Tryz.prog (sl02Time.tb N) Tryz.f19 [] := goods_nil
  exact ok_of tabOK mixed rfl hs Tryz.func19 g0 (by kernel_rfl) rfl (sl02Time.eq N) (fun _ => rfl)
def sl03Span.tb (N : Nat) : Tabs := ⟨tt, fun a b c => look3 a b c [(0, 1, 2, CE.sig 19 [.d] (sl02Time.S N))], fun a b => look2 a b []⟩
def sl03Span.S (N : Nat) : Sig := ⟨sl03Span.P, sl03Span.R, false, false, [], false, sl03Span.F N⟩
theorem sl03Span.eq (N : Nat) (x : sl03Span.P.D) : topV (sl03Span.tb N) 0 Tryz.f199 [.d] sl03Span.P sl03Span.R false false [] x = sl03Span.T N x := by kernel_rfl
theorem sl03Span.ok (N : Nat) : Sound Tryz.prog 199 [.d] (sl03Span.S N) := by
  have hs : SigsOK Tryz.prog (sl03Span.tb N) := sigs_of _ rfl ⟨sl02Time.ok N, trivial⟩
  have g0 : Goods Tryz.prog (sl03Span.tb N) Tryz.f199 [] := goods_nil
  exact ok_of tabOK mixed rfl hs Tryz.func199 g0 (by kernel_rfl) rfl (sl03Span.eq N) (fun _ => rfl)
def sSpansRight.i0_0 : Tmpl := ⟨0, 41, [0, 3], [.d (some 0) T122, .d none (.int .i64)], []⟩
def sSpansRight.o0_0 : Tmpl := ⟨0, 41, [0], [.d (some 0) T122], []⟩
def sSpansRight.r0_0 : Tmpl := ⟨0, 41, [2], [.d none .bool], []⟩
def sSpansRight.G0_0 (N : Nat) : Frag := ⟨sSpansRight.i0_0, sSpansRight.o0_0, sSpansRight.r0_0, sSpansRight.C0_0, sSpansRight.M0_0, sSpansRight.O0_0, sSpansRight.Q0_0, sSpansRight.L0_0 N⟩
def sSpansRight.tb (N : Nat) : Tabs := ⟨tt, fun a b c => look3 a b c [(0, 4, 4, CE.sig 199 [.d] (sl03Span.S N))], fun a b => look2 a b [(0, 0, sSpansRight.G0_0 N)]⟩
theorem sSpansRight.eq0_0 (N : Nat) (c : sSpansRight.C0_0.D) (m : sSpansRight.M0_0.D) : roundV (sSpansRight.tb N) 0 Tryz.f138 0 sSpansRight.i0_0 sSpansRight.o0_0 sSpansRight.r0_0 sSpansRight.M0_0 sSpansRight.O0_0 sSpansRight.Q0_0 (unpack sSpansRight.C0_0 c) m = (sSpansRight.B0_0 N c m).map (withC (stays (unpack sSpansRight.C0_0 c) [0]) (stays (unpack sSpansRight.C0_0 c) [0]) (stays (unpack sSpansRight.C0_0 c) [])) := by kernel_rfl
def sSpansRight.S (N : Nat) : Sig := ⟨sSpansRight.P, sSpansRight.R, false, false, [], false, sSpansRight.F N⟩
theorem sSpansRight.eq (N : Nat) (x : sSpansRight.P.D) : topV (sSpansRight.tb N) 0 Tryz.f138 [.d] sSpansRight.P sSpansRight.R false false [] x = sSpansRight.T N x := by kernel_rfl
theorem sSpansRight.ok (N : Nat) : Sound Tryz.prog 138 [.d] (sSpansRight.S N) := by
  have hs : SigsOK Tryz.prog (sSpansRight.tb N) := sigs_of _ rfl ⟨sl03Span.ok N, trivial⟩
  have g0 : Goods Tryz.prog (sSpansRight.tb N) Tryz.f138 [] := goods_nil
  have g1 := goods_cons tabOK mixed rfl hs g0 0 (by kernel_rfl) (sSpansRight.B0_0 N) N rfl (sSpansRight.eq0_0 N)
  exact ok_of tabOK mixed rfl hs Tryz.func138 g1 (by kernel_rfl) rfl (sSpansRight.eq N) (fun _ => rfl)
def sNodesRight.i0_0 : Tmpl := ⟨0, 43, [0, 3], [.d (some 0) T49, .d none (.int .i64)], []⟩
def sNodesRight.o0_0 : Tmpl := ⟨0, 43, [], [], []⟩
def sNodesRight.r0_0 : Tmpl := ⟨0, 43, [2], [.d none .bool], []⟩
def sNodesRight.G0_0 (N : Nat) : Frag := ⟨sNodesRight.i0_0, sNodesRight.o0_0, sNodesRight.r0_0, sNodesRight.C0_0, sNodesRight.M0_0, sNodesRight.O0_0, sNodesRight.Q0_0, sNodesRight.L0_0 N⟩
def sNodesRight.tb (N : Nat) : Tabs := ⟨tt, fun a b c => look3 a b c [(0, 6, 5, CE.sig 137 [.d] (sl10State.S N)), (0, 6, 22, CE.sig 138 [.d] (sSpansRight.S N))], fun a b => look2 a b [(0, 0, sNodesRight.G0_0 N)]⟩
theorem sNodesRight.eq0_0 (N : Nat) (c : sNodesRight.C0_0.D) (m : sNodesRight.M0_0.D) : roundV (sNodesRight.tb N) 0 Tryz.f80 0 sNodesRight.i0_0 sNodesRight.o0_0 sNodesRight.r0_0 sNodesRight.M0_0 sNodesRight.O0_0 sNodesRight.Q0_0 (unpack sNodesRight.C0_0 c) m = (sNodesRight.B0_0 N c m).map (withC (stays (unpack sNodesRight.C0_0 c) [0]) (stays (unpack sNodesRight.C0_0 c) []) (stays (unpack sNodesRight.C0_0 c) [])) := by kernel_rfl
def sNodesRight.S (N : Nat) : Sig := ⟨sNodesRight.P, sNodesRight.R, false, false, [], false, sNodesRight.F N⟩
theorem sNodesRight.eq (N : Nat) (x : sNodesRight.P.D) : topV (sNodesRight.tb N) 0 Tryz.f80 [.d] sNodesRight.P sNodesRight.R false false [] x = sNodesRight.T N x := by kernel_rfl
theorem sNodesRight.ok (N : Nat) : Sound Tryz.prog 80 [.d] (sNodesRight.S N) := by
  have hs : SigsOK Tryz.prog (sNodesRight.tb N) := sigs_of _ rfl ⟨sl10State.ok N, sSpansRight.ok N, trivial⟩
  have g0 : Goods Tryz.prog (sNodesRight.tb N) Tryz.f80 [] := goods_nil
  have g1 := goods_cons tabOK mixed rfl hs g0 0 (by kernel_rfl) (sNodesRight.B0_0 N) N rfl (sNodesRight.eq0_0 N)
  exact ok_of tabOK mixed rfl hs Tryz.func80 g1 (by kernel_rfl) rfl (sNodesRight.eq N) (fun _ => rfl)
def sNameRight.i0_0 : Tmpl := ⟨0, 46, [0, 3], [.d (some 0) .str, .d none (.int .i64)], []⟩
def sNameRight.o0_0 : Tmpl := ⟨0, 46, [], [], []⟩
def sNameRight.r0_0 : Tmpl := ⟨0, 46, [2], [.d none .bool], []⟩
def sNameRight.G0_0 (N : Nat) : Frag := ⟨sNameRight.i0_0, sNameRight.o0_0, sNameRight.r0_0, sNameRight.C0_0, sNameRight.M0_0, sNameRight.O0_0, sNameRight.Q0_0, sNameRight.L0_0 N⟩
def sNameRight.tb (N : Nat) : Tabs := ⟨tt, fun a b c => look3 a b c [], fun a b => look2 a b [(0, 0, sNameRight.G0_0 N)]⟩
theorem sNameRight.eq0_0 (N : Nat) (c : sNameRight.C0_0.D) (m : sNameRight.M0_0.D) : roundV (sNameRight.tb N) 0 Tryz.f142 0 sNameRight.i0_0 sNameRight.o0_0 sNameRight.r0_0 sNameRight.M0_0 sNameRight.O0_0 sNameRight.Q0_0 (unpack sNameRight.C0_0 c) m = (sNameRight.B0_0 N c m).map (withC (stays (unpack sNameRight.C0_0 c) [0]) (stays (unpack sNameRight.C0_0 c) []) (stays (unpack sNameRight.C0_0 c) [])) := by kernel_rfl
def sNameRight.S (N : Nat) : Sig := ⟨sNameRight.P, sNameRight.R, false, false, [], false, sNameRight.F N⟩
theorem sNameRight.eq (N : Nat) (x : sNameRight.P.D) : topV (sNameRight.tb N) 0 Tryz.f142 [.d] sNameRight.P sNameRight.R false false [] x = sNameRight.T N x := by kernel_rfl
theorem sNameRight.ok (N : Nat) : Sound Tryz.prog 142 [.d] (sNameRight.S N) := by
  have hs : SigsOK Tryz.prog (sNameRight.tb N) := sigs_of _ rfl trivial
  have g0 : Goods Tryz.prog (sNameRight.tb N) Tryz.f142 [] := goods_nil
  have g1 := goods_cons tabOK mixed rfl hs g0 0 (by kernel_rfl) (sNameRight.B0_0 N) N rfl (sNameRight.eq0_0 N)
  exact ok_of tabOK mixed rfl hs Tryz.func142 g1 (by kernel_rfl) rfl (sNameRight.eq N) (fun _ => rfl)
def sBelow.tb (N : Nat) : Tabs := ⟨tt, fun a b c => look3 a b c [(0, 1, 1, CE.sig 141 [.d] (sLabelRight.S N)), (0, 1, 4, CE.sig 141 [.d] (sLabelRight.S N)), (0, 1, 9, CE.sig 198 [.d, .d] (sl02Below.S N))], fun a b => look2 a b []⟩
def sBelow.S (N : Nat) : Sig := ⟨sBelow.P, sBelow.R, false, false, [], false, sBelow.F N⟩
theorem sBelow.eq (N : Nat) (x : sBelow.P.D) : topV (sBelow.tb N) 0 Tryz.f180 [.d, .d] sBelow.P sBelow.R false false [] x = sBelow.T N x := by kernel_rfl
theorem sBelow.ok (N : Nat) : Sound Tryz.prog 180 [.d, .d] (sBelow.S N) := by
  have hs : SigsOK Tryz.prog (sBelow.tb N) := sigs_of _ rfl ⟨sLabelRight.ok N, sLabelRight.ok N, sl02Below.ok N, trivial⟩
  have g0 : Goods Tryz.prog (sBelow.tb N) Tryz.f180 [] := goods_nil
  exact ok_of tabOK mixed rfl hs Tryz.func180 g0 (by kernel_rfl) rfl (sBelow.eq N) (fun _ => rfl)
def sl04Nodes.i0_0 : Tmpl := ⟨0, 32, [0, 3], [.d (some 0) T89, .d none (.int .i64)], []⟩
def sl04Nodes.o0_0 : Tmpl := ⟨0, 32, [], [], []⟩
def sl04Nodes.r0_0 : Tmpl := ⟨0, 32, [2], [.d none .bool], []⟩
def sl04Nodes.G0_0 (N : Nat) : Frag := ⟨sl04Nodes.i0_0, sl04Nodes.o0_0, sl04Nodes.r0_0, sl04Nodes.C0_0, sl04Nodes.M0_0, sl04Nodes.O0_0, sl04Nodes.Q0_0, sl04Nodes.L0_0 N⟩
def sl04Nodes.tb (N : Nat) : Tabs := ⟨tt, fun a b c => look3 a b c [(0, 4, 4, CE.sig 41 [.d, .d, .d] (sl02Is.S N))], fun a b => look2 a b [(0, 0, sl04Nodes.G0_0 N)]⟩
theorem sl04Nodes.eq0_0 (N : Nat) (c : sl04Nodes.C0_0.D) (m : sl04Nodes.M0_0.D) : roundV (sl04Nodes.tb N) 0 Tryz.f181 0 sl04Nodes.i0_0 sl04Nodes.o0_0 sl04Nodes.r0_0 sl04Nodes.M0_0 sl04Nodes.O0_0 sl04Nodes.Q0_0 (unpack sl04Nodes.C0_0 c) m = (sl04Nodes.B0_0 N c m).map (withC (stays (unpack sl04Nodes.C0_0 c) [0]) (stays (unpack sl04Nodes.C0_0 c) []) (stays (unpack sl04Nodes.C0_0 c) [])) := by kernel_rfl
def sl04Nodes.S (N : Nat) : Sig := ⟨sl04Nodes.P, sl04Nodes.R, false, false, [], false, sl04Nodes.F N⟩
theorem sl04Nodes.eq (N : Nat) (x : sl04Nodes.P.D) : topV (sl04Nodes.tb N) 0 Tryz.f181 [.d] sl04Nodes.P sl04Nodes.R false false [] x = sl04Nodes.T N x := by kernel_rfl
theorem sl04Nodes.ok (N : Nat) : Sound Tryz.prog 181 [.d] (sl04Nodes.S N) := by
  have hs : SigsOK Tryz.prog (sl04Nodes.tb N) := sigs_of _ rfl ⟨sl02Is.ok N, trivial⟩
  have g0 : Goods Tryz.prog (sl04Nodes.tb N) Tryz.f181 [] := goods_nil
  have g1 := goods_cons tabOK mixed rfl hs g0 0 (by kernel_rfl) (sl04Nodes.B0_0 N) N rfl (sl04Nodes.eq0_0 N)
  exact ok_of tabOK mixed rfl hs Tryz.func181 g1 (by kernel_rfl) rfl (sl04Nodes.eq N) (fun _ => rfl)
def sTaskRight.tb (N : Nat) : Tabs := ⟨tt, fun a b c => look3 a b c [(0, 1, 2, CE.sig 141 [.d] (sLabelRight.S N)), (0, 1, 7, CE.sig 41 [.d, .d, .d] (sl02Is.S N)), (0, 1, 13, CE.sig 142 [.d] (sNameRight.S N)), (0, 1, 19, CE.sig 41 [.d, .d, .d] (sl02Is.S N)), (0, 1, 25, CE.sig 41 [.d, .d, .d] (sl02Is.S N)), (0, 1, 31, CE.sig 41 [.d, .d, .d] (sl02Is.S N)), (0, 1, 37, CE.sig 78 [.d] (sl03Now.S N)), (0, 1, 43, CE.sig 41 [.d, .d, .d] (sl02Is.S N)), (0, 5, 6, CE.sig 41 [.d, .d, .d] (sl02Is.S N)), (0, 5, 13, CE.sig 180 [.d, .d] (sBelow.S N)), (0, 8, 2, CE.sig 19 [.d] (sl02Time.S N)), (0, 8, 14, CE.sig 181 [.d] (sl04Nodes.S N))], fun a b => look2 a b []⟩
def sTaskRight.S (N : Nat) : Sig := ⟨sTaskRight.P, sTaskRight.R, false, false, [], false, sTaskRight.F N⟩
theorem sTaskRight.eq (N : Nat) (x : sTaskRight.P.D) : topV (sTaskRight.tb N) 0 Tryz.f117 [.d] sTaskRight.P sTaskRight.R false false [] x = sTaskRight.T N x := by kernel_rfl
theorem sTaskRight.ok (N : Nat) : Sound Tryz.prog 117 [.d] (sTaskRight.S N) := by
  have hs : SigsOK Tryz.prog (sTaskRight.tb N) := sigs_of _ rfl ⟨sLabelRight.ok N, sl02Is.ok N, sNameRight.ok N, sl02Is.ok N, sl02Is.ok N, sl02Is.ok N, sl03Now.ok N, sl02Is.ok N, sl02Is.ok N, sBelow.ok N, sl02Time.ok N, sl04Nodes.ok N, trivial⟩
  have g0 : Goods Tryz.prog (sTaskRight.tb N) Tryz.f117 [] := goods_nil
  exact ok_of tabOK mixed rfl hs Tryz.func117 g0 (by kernel_rfl) rfl (sTaskRight.eq N) (fun _ => rfl)
def sl12At.i0_0 : Tmpl := ⟨1, 31, [0, 2, 4, 7], [.d (some 0) T50, .d (some 1) (.int .i64), .cp 0 0, .d none (.int .i64)], [.cells [.d (some 2) (.int .i64), .d (some 3) (.int .i64)]]⟩
def sl12At.o0_0 : Tmpl := ⟨1, 31, [], [], [.dead]⟩
def sl12At.r0_0 : Tmpl := ⟨1, 31, [6], [.d none (.int .i64)], [.dead]⟩
def sl12At.G0_0 (N : Nat) : Frag := ⟨sl12At.i0_0, sl12At.o0_0, sl12At.r0_0, sl12At.C0_0, sl12At.M0_0, sl12At.O0_0, sl12At.Q0_0, sl12At.L0_0 N⟩
def sl12At.tb (N : Nat) : Tabs := ⟨tt, fun a b c => look3 a b c [], fun a b => look2 a b [(0, 0, sl12At.G0_0 N)]⟩
theorem sl12At.eq0_0 (N : Nat) (c : sl12At.C0_0.D) (m : sl12At.M0_0.D) : roundV (sl12At.tb N) 0 Tryz.f140 0 sl12At.i0_0 sl12At.o0_0 sl12At.r0_0 sl12At.M0_0 sl12At.O0_0 sl12At.Q0_0 (unpack sl12At.C0_0 c) m = (sl12At.B0_0 N c m).map (withC (stays (unpack sl12At.C0_0 c) [0, 1, 2, 3]) (stays (unpack sl12At.C0_0 c) []) (stays (unpack sl12At.C0_0 c) [])) := by kernel_rfl
def sl12At.S (N : Nat) : Sig := ⟨sl12At.P, sl12At.R, false, false, [], false, sl12At.F N⟩
theorem sl12At.eq (N : Nat) (x : sl12At.P.D) : topV (sl12At.tb N) 0 Tryz.f140 [.d, .d, .d] sl12At.P sl12At.R false false [] x = sl12At.T N x := by kernel_rfl
theorem sl12At.ok (N : Nat) : Sound Tryz.prog 140 [.d, .d, .d] (sl12At.S N) := by
  have hs : SigsOK Tryz.prog (sl12At.tb N) := sigs_of _ rfl trivial
  have g0 : Goods Tryz.prog (sl12At.tb N) Tryz.f140 [] := goods_nil
  have g1 := goods_cons tabOK mixed rfl hs g0 0 (by kernel_rfl) (sl12At.B0_0 N) N rfl (sl12At.eq0_0 N)
  exact ok_of tabOK mixed rfl hs Tryz.func140 g1 (by kernel_rfl) rfl (sl12At.eq N) (fun _ => rfl)
def sTasksRight.i0_0 : Tmpl := ⟨0, 84, [0, 3], [.d (some 0) T50, .d none (.int .i64)], []⟩
def sTasksRight.o0_0 : Tmpl := ⟨0, 84, [], [], []⟩
def sTasksRight.r0_0 : Tmpl := ⟨0, 84, [2], [.d none .bool], []⟩
def sTasksRight.G0_0 (N : Nat) : Frag := ⟨sTasksRight.i0_0, sTasksRight.o0_0, sTasksRight.r0_0, sTasksRight.C0_0, sTasksRight.M0_0, sTasksRight.O0_0, sTasksRight.Q0_0, sTasksRight.L0_0 N⟩
def sTasksRight.tb (N : Nat) : Tabs := ⟨tt, fun a b c => look3 a b c [(0, 7, 1, CE.sig 117 [.d] (sTaskRight.S N)), (0, 12, 11, CE.sig 140 [.d, .d, .d] (sl12At.S N)), (0, 9, 9, CE.sig 139 [.d] (sl09Ord.S N)), (0, 9, 12, CE.sig 139 [.d] (sl09Ord.S N))], fun a b => look2 a b [(0, 0, sTasksRight.G0_0 N)]⟩
theorem sTasksRight.eq0_0 (N : Nat) (c : sTasksRight.C0_0.D) (m : sTasksRight.M0_0.D) : roundV (sTasksRight.tb N) 0 Tryz.f81 0 sTasksRight.i0_0 sTasksRight.o0_0 sTasksRight.r0_0 sTasksRight.M0_0 sTasksRight.O0_0 sTasksRight.Q0_0 (unpack sTasksRight.C0_0 c) m = (sTasksRight.B0_0 N c m).map (withC (stays (unpack sTasksRight.C0_0 c) [0]) (stays (unpack sTasksRight.C0_0 c) []) (stays (unpack sTasksRight.C0_0 c) [])) := by kernel_rfl
def sTasksRight.S (N : Nat) : Sig := ⟨sTasksRight.P, sTasksRight.R, false, false, [], false, sTasksRight.F N⟩
theorem sTasksRight.eq (N : Nat) (x : sTasksRight.P.D) : topV (sTasksRight.tb N) 0 Tryz.f81 [.d] sTasksRight.P sTasksRight.R false false [] x = sTasksRight.T N x := by kernel_rfl
theorem sTasksRight.ok (N : Nat) : Sound Tryz.prog 81 [.d] (sTasksRight.S N) := by
  have hs : SigsOK Tryz.prog (sTasksRight.tb N) := sigs_of _ rfl ⟨sTaskRight.ok N, sl12At.ok N, sl09Ord.ok N, sl09Ord.ok N, trivial⟩
  have g0 : Goods Tryz.prog (sTasksRight.tb N) Tryz.f81 [] := goods_nil
  have g1 := goods_cons tabOK mixed rfl hs g0 0 (by kernel_rfl) (sTasksRight.B0_0 N) N rfl (sTasksRight.eq0_0 N)
  exact ok_of tabOK mixed rfl hs Tryz.func81 g1 (by kernel_rfl) rfl (sTasksRight.eq N) (fun _ => rfl)
def sl11Less.tb (N : Nat) : Tabs := ⟨tt, fun a b c => look3 a b c [(0, 2, 2, CE.sig 139 [.d] (sl09Ord.S N)), (0, 2, 5, CE.sig 139 [.d] (sl09Ord.S N))], fun a b => look2 a b []⟩
def sl11Less.S (N : Nat) : Sig := ⟨sl11Less.P, sl11Less.R, false, false, [], false, sl11Less.F N⟩
theorem sl11Less.eq (N : Nat) (x : sl11Less.P.D) : topV (sl11Less.tb N) 0 Tryz.f143 [.d, .d] sl11Less.P sl11Less.R false false [] x = sl11Less.T N x := by kernel_rfl
theorem sl11Less.ok (N : Nat) : Sound Tryz.prog 143 [.d, .d] (sl11Less.S N) := by
  have hs : SigsOK Tryz.prog (sl11Less.tb N) := sigs_of _ rfl ⟨sl09Ord.ok N, sl09Ord.ok N, trivial⟩
  have g0 : Goods Tryz.prog (sl11Less.tb N) Tryz.f143 [] := goods_nil
  exact ok_of tabOK mixed rfl hs Tryz.func143 g0 (by kernel_rfl) rfl (sl11Less.eq N) (fun _ => rfl)
def sUsesRight.i0_0 : Tmpl := ⟨0, 76, [0, 3, 4], [.d (some 0) T51, .d none (.int .i64), .d none (.int .i64)], []⟩
def sUsesRight.o0_0 : Tmpl := ⟨0, 76, [], [], []⟩
def sUsesRight.r0_0 : Tmpl := ⟨0, 76, [2], [.d none .bool], []⟩
def sUsesRight.G0_0 (N : Nat) : Frag := ⟨sUsesRight.i0_0, sUsesRight.o0_0, sUsesRight.r0_0, sUsesRight.C0_0, sUsesRight.M0_0, sUsesRight.O0_0, sUsesRight.Q0_0, sUsesRight.L0_0 N⟩
def sUsesRight.tb (N : Nat) : Tabs := ⟨tt, fun a b c => look3 a b c [(0, 7, 5, CE.sig 141 [.d] (sLabelRight.S N)), (0, 7, 13, CE.sig 142 [.d] (sNameRight.S N)), (0, 7, 22, CE.sig 41 [.d, .d, .d] (sl02Is.S N)), (0, 7, 38, CE.sig 143 [.d, .d] (sl11Less.S N))], fun a b => look2 a b [(0, 0, sUsesRight.G0_0 N)]⟩
theorem sUsesRight.eq0_0 (N : Nat) (c : sUsesRight.C0_0.D) (m : sUsesRight.M0_0.D) : roundV (sUsesRight.tb N) 0 Tryz.f82 0 sUsesRight.i0_0 sUsesRight.o0_0 sUsesRight.r0_0 sUsesRight.M0_0 sUsesRight.O0_0 sUsesRight.Q0_0 (unpack sUsesRight.C0_0 c) m = (sUsesRight.B0_0 N c m).map (withC (stays (unpack sUsesRight.C0_0 c) [0]) (stays (unpack sUsesRight.C0_0 c) []) (stays (unpack sUsesRight.C0_0 c) [])) := by kernel_rfl
def sUsesRight.S (N : Nat) : Sig := ⟨sUsesRight.P, sUsesRight.R, false, false, [], false, sUsesRight.F N⟩
theorem sUsesRight.eq (N : Nat) (x : sUsesRight.P.D) : topV (sUsesRight.tb N) 0 Tryz.f82 [.d] sUsesRight.P sUsesRight.R false false [] x = sUsesRight.T N x := by kernel_rfl
theorem sUsesRight.ok (N : Nat) : Sound Tryz.prog 82 [.d] (sUsesRight.S N) := by
  have hs : SigsOK Tryz.prog (sUsesRight.tb N) := sigs_of _ rfl ⟨sLabelRight.ok N, sNameRight.ok N, sl02Is.ok N, sl11Less.ok N, trivial⟩
  have g0 : Goods Tryz.prog (sUsesRight.tb N) Tryz.f82 [] := goods_nil
  have g1 := goods_cons tabOK mixed rfl hs g0 0 (by kernel_rfl) (sUsesRight.B0_0 N) N rfl (sUsesRight.eq0_0 N)
  exact ok_of tabOK mixed rfl hs Tryz.func82 g1 (by kernel_rfl) rfl (sUsesRight.eq N) (fun _ => rfl)
def sl13Clear.i0_0 : Tmpl := ⟨2, 24, [2, 3, 5, 6], [.cp 0 0, .cp 1 0, .d none (.int .i64), .d none (.int .i64)], [.cells [.d (some 0) T44, .d (some 1) T45, .d (some 2) T46, .d (some 3) (.int .i64)], .cells [.d (some 4) (.int .i64), .d (some 5) (.int .i64)]]⟩
def sl13Clear.o0_0 : Tmpl := ⟨2, 24, [5], [.d none (.int .i64)], [.dead, .dead]⟩
def sl13Clear.r0_0 : Tmpl := ⟨0, 0, [], [.d (some 9999) .unit], []⟩
def sl13Clear.G0_0 (N : Nat) : Frag := ⟨sl13Clear.i0_0, sl13Clear.o0_0, sl13Clear.r0_0, sl13Clear.C0_0, sl13Clear.M0_0, sl13Clear.O0_0, sl13Clear.Q0_0, sl13Clear.L0_0 N⟩
def sl13Clear.tb (N : Nat) : Tabs := ⟨tt, fun a b c => look3 a b c [(0, 5, 6, CE.sig 58 [.d, .d] (sl05Cleared.S N))], fun a b => look2 a b [(0, 0, sl13Clear.G0_0 N)]⟩
theorem sl13Clear.eq0_0 (N : Nat) (c : sl13Clear.C0_0.D) (m : sl13Clear.M0_0.D) : roundV (sl13Clear.tb N) 0 Tryz.f144 0 sl13Clear.i0_0 sl13Clear.o0_0 sl13Clear.r0_0 sl13Clear.M0_0 sl13Clear.O0_0 sl13Clear.Q0_0 (unpack sl13Clear.C0_0 c) m = (sl13Clear.B0_0 N c m).map (withC (stays (unpack sl13Clear.C0_0 c) [0, 1, 2, 3, 4, 5]) (stays (unpack sl13Clear.C0_0 c) []) (stays (unpack sl13Clear.C0_0 c) [])) := by kernel_rfl
def sl13Clear.S (N : Nat) : Sig := ⟨sl13Clear.P, sl13Clear.R, false, false, [], false, sl13Clear.F N⟩
theorem sl13Clear.eq (N : Nat) (x : sl13Clear.P.D) : topV (sl13Clear.tb N) 0 Tryz.f144 [.d, .d] sl13Clear.P sl13Clear.R false false [] x = sl13Clear.T N x := by kernel_rfl
theorem sl13Clear.ok (N : Nat) : Sound Tryz.prog 144 [.d, .d] (sl13Clear.S N) := by
  have hs : SigsOK Tryz.prog (sl13Clear.tb N) := sigs_of _ rfl ⟨sl05Cleared.ok N, trivial⟩
  have g0 : Goods Tryz.prog (sl13Clear.tb N) Tryz.f144 [] := goods_nil
  have g1 := goods_cons tabOK mixed rfl hs g0 0 (by kernel_rfl) (sl13Clear.B0_0 N) N rfl (sl13Clear.eq0_0 N)
  exact ok_of tabOK mixed rfl hs Tryz.func144 g1 (by kernel_rfl) rfl (sl13Clear.eq N) (fun _ => rfl)
def sl13End.tb (N : Nat) : Tabs := ⟨tt, fun a b c => look3 a b c [], fun a b => look2 a b []⟩
def sl13End.S (N : Nat) : Sig := ⟨sl13End.P, sl13End.R, false, false, [], false, sl13End.F N⟩
theorem sl13End.eq (N : Nat) (x : sl13End.P.D) : topV (sl13End.tb N) 0 Tryz.f145 [.d] sl13End.P sl13End.R false false [] x = sl13End.T N x := by kernel_rfl
theorem sl13End.ok (N : Nat) : Sound Tryz.prog 145 [.d] (sl13End.S N) := by
  have hs : SigsOK Tryz.prog (sl13End.tb N) := sigs_of _ rfl trivial
  have g0 : Goods Tryz.prog (sl13End.tb N) Tryz.f145 [] := goods_nil
  exact ok_of tabOK mixed rfl hs Tryz.func145 g0 (by kernel_rfl) rfl (sl13End.eq N) (fun _ => rfl)
def sl13Task.i0_0 : Tmpl := ⟨2, 87, [2, 3, 5], [.cp 0 0, .cp 1 0, .d none (.int .i64)], [.cells [.d (some 0) T44, .d (some 1) T45, .d (some 2) T46, .d (some 3) (.int .i64), .d (some 4) T49, .d (some 5) T50, .d (some 6) T51, .d (some 7) (.int .i64)], .cells [.d (some 8) (.int .i64), .d (some 9) (.int .i64), .d (some 10) (.int .i64), .d (some 11) .str, .d (some 12) (.int .i64), .d (some 13) (.int .i64), .d (some 14) (.int .i64), .d (some 15) (.int .i64), .d (some 16) (.int .i64), .d (some 17) (.int .i64), .d (some 18) (.int .i64), .d (some 19) (.int .i64), .d (some 20) (.int .i64), .d (some 21) T89]]⟩
def sl13Task.o0_0 : Tmpl := ⟨2, 87, [2, 3], [.cp 0 0, .cp 1 0], [.cells [.d (some 0) T44, .d (some 1) T45, .d (some 2) T46, .d (some 3) (.int .i64), .d (some 4) T49, .d (some 5) T50, .d (some 6) T51, .d (some 7) (.int .i64)], .cells [.d (some 8) (.int .i64), .d (some 9) (.int .i64), .d (some 10) (.int .i64), .d (some 11) .str, .d (some 12) (.int .i64), .d (some 13) (.int .i64), .d (some 14) (.int .i64), .d (some 15) (.int .i64), .d (some 16) (.int .i64), .d (some 17) (.int .i64), .d (some 18) (.int .i64), .d (some 19) (.int .i64), .d (some 20) (.int .i64), .d (some 21) T89]]⟩
def sl13Task.r0_0 : Tmpl := ⟨2, 87, [4], [.d none .bool], [.dead, .dead]⟩
def sl13Task.G0_0 (N : Nat) : Frag := ⟨sl13Task.i0_0, sl13Task.o0_0, sl13Task.r0_0, sl13Task.C0_0, sl13Task.M0_0, sl13Task.O0_0, sl13Task.Q0_0, sl13Task.L0_0 N⟩
def sl13Task.tb (N : Nat) : Tabs := ⟨tt, fun a b c => look3 a b c [(0, 1, 4, CE.sig 144 [.d, .d] (sl13Clear.S N)), (0, 6, 22, CE.sig 58 [.d, .d] (sl05Cleared.S N)), (0, 9, 9, CE.sig 145 [.d] (sl13End.S N))], fun a b => look2 a b [(0, 0, sl13Task.G0_0 N)]⟩
theorem sl13Task.eq0_0 (N : Nat) (c : sl13Task.C0_0.D) (m : sl13Task.M0_0.D) : roundV (sl13Task.tb N) 0 Tryz.f83 0 sl13Task.i0_0 sl13Task.o0_0 sl13Task.r0_0 sl13Task.M0_0 sl13Task.O0_0 sl13Task.Q0_0 (unpack sl13Task.C0_0 c) m = (sl13Task.B0_0 N c m).map (withC (stays (unpack sl13Task.C0_0 c) [0, 1, 2, 3, 4, 5, 6, 7, 8, 9, 10, 11, 12, 13, 14, 15, 16, 17, 18, 19, 20, 21]) (stays (unpack sl13Task.C0_0 c) [0, 1, 2, 3, 4, 5, 6, 7, 8, 9, 10, 11, 12, 13, 14, 15, 16, 17, 18, 19, 20, 21]) (stays (unpack sl13Task.C0_0 c) [])) := by kernel_rfl
def sl13Task.S (N : Nat) : Sig := ⟨sl13Task.P, sl13Task.R, false, false, [], false, sl13Task.F N⟩
theorem sl13Task.eq (N : Nat) (x : sl13Task.P.D) : topV (sl13Task.tb N) 0 Tryz.f83 [.d, .d] sl13Task.P sl13Task.R false false [] x = sl13Task.T N x := by kernel_rfl
theorem sl13Task.ok (N : Nat) : Sound Tryz.prog 83 [.d, .d] (sl13Task.S N) := by
  have hs : SigsOK Tryz.prog (sl13Task.tb N) := sigs_of _ rfl ⟨sl13Clear.ok N, sl05Cleared.ok N, sl13End.ok N, trivial⟩
  have g0 : Goods Tryz.prog (sl13Task.tb N) Tryz.f83 [] := goods_nil
  have g1 := goods_cons tabOK mixed rfl hs g0 0 (by kernel_rfl) (sl13Task.B0_0 N) N rfl (sl13Task.eq0_0 N)
  exact ok_of tabOK mixed rfl hs Tryz.func83 g1 (by kernel_rfl) rfl (sl13Task.eq N) (fun _ => rfl)
def sl12Live.tb (N : Nat) : Tabs := ⟨tt, fun a b c => look3 a b c [], fun a b => look2 a b []⟩
def sl12Live.S (N : Nat) : Sig := ⟨sl12Live.P, sl12Live.R, false, false, [], false, sl12Live.F N⟩
theorem sl12Live.eq (N : Nat) (x : sl12Live.P.D) : topV (sl12Live.tb N) 0 Tryz.f146 [.d] sl12Live.P sl12Live.R false false [] x = sl12Live.T N x := by kernel_rfl
theorem sl12Live.ok (N : Nat) : Sound Tryz.prog 146 [.d] (sl12Live.S N) := by
  have hs : SigsOK Tryz.prog (sl12Live.tb N) := sigs_of _ rfl trivial
  have g0 : Goods Tryz.prog (sl12Live.tb N) Tryz.f146 [] := goods_nil
  exact ok_of tabOK mixed rfl hs Tryz.func146 g0 (by kernel_rfl) rfl (sl12Live.eq N) (fun _ => rfl)
def sLiveOf.i0_0 : Tmpl := ⟨1, 34, [0, 3, 5, 6], [.d (some 0) T50, .cp 0 0, .d none (.int .i64), .d none (.int .i64)], [.cells [.d (some 1) (.int .i64), .d (some 2) (.int .i64)]]⟩
def sLiveOf.o0_0 : Tmpl := ⟨1, 34, [5], [.d none (.int .i64)], [.dead]⟩
def sLiveOf.r0_0 : Tmpl := ⟨0, 0, [], [.d (some 9999) .unit], []⟩
def sLiveOf.G0_0 (N : Nat) : Frag := ⟨sLiveOf.i0_0, sLiveOf.o0_0, sLiveOf.r0_0, sLiveOf.C0_0, sLiveOf.M0_0, sLiveOf.O0_0, sLiveOf.Q0_0, sLiveOf.L0_0 N⟩
def sLiveOf.tb (N : Nat) : Tabs := ⟨tt, fun a b c => look3 a b c [(0, 2, 1, CE.sig 81 [.d] (sTasksRight.S N)), (0, 7, 13, CE.sig 146 [.d] (sl12Live.S N))], fun a b => look2 a b [(0, 0, sLiveOf.G0_0 N)]⟩
theorem sLiveOf.eq0_0 (N : Nat) (c : sLiveOf.C0_0.D) (m : sLiveOf.M0_0.D) : roundV (sLiveOf.tb N) 0 Tryz.f84 0 sLiveOf.i0_0 sLiveOf.o0_0 sLiveOf.r0_0 sLiveOf.M0_0 sLiveOf.O0_0 sLiveOf.Q0_0 (unpack sLiveOf.C0_0 c) m = (sLiveOf.B0_0 N c m).map (withC (stays (unpack sLiveOf.C0_0 c) [0, 1, 2]) (stays (unpack sLiveOf.C0_0 c) []) (stays (unpack sLiveOf.C0_0 c) [])) := by kernel_rfl
def sLiveOf.S (N : Nat) : Sig := ⟨sLiveOf.P, sLiveOf.R, false, false, [], false, sLiveOf.F N⟩
theorem sLiveOf.eq (N : Nat) (x : sLiveOf.P.D) : topV (sLiveOf.tb N) 0 Tryz.f84 [.d, .d] sLiveOf.P sLiveOf.R false false [] x = sLiveOf.T N x := by kernel_rfl
theorem sLiveOf.ok (N : Nat) : Sound Tryz.prog 84 [.d, .d] (sLiveOf.S N) := by
  have hs : SigsOK Tryz.prog (sLiveOf.tb N) := sigs_of _ rfl ⟨sTasksRight.ok N, sl12Live.ok N, trivial⟩
  have g0 : Goods Tryz.prog (sLiveOf.tb N) Tryz.f84 [] := goods_nil
  have g1 := goods_cons tabOK mixed rfl hs g0 0 (by kernel_rfl) (sLiveOf.B0_0 N) N rfl (sLiveOf.eq0_0 N)
  exact ok_of tabOK mixed rfl hs Tryz.func84 g1 (by kernel_rfl) rfl (sLiveOf.eq N) (fun _ => rfl)
def sLabelsOf.tb (N : Nat) : Tabs := ⟨tt, fun a b c => look3 a b c [(0, 1, 1, CE.sig 79 [.d] (sConfigRight.S N)), (0, 3, 2, CE.sig 28 [.d] (sl09Labels.S N))], fun a b => look2 a b []⟩
def sLabelsOf.S (N : Nat) : Sig := ⟨sLabelsOf.P, sLabelsOf.R, false, false, [true], false, sLabelsOf.F N⟩
theorem sLabelsOf.eq (N : Nat) (x : sLabelsOf.P.D) : topV (sLabelsOf.tb N) 0 Tryz.f147 [.d] sLabelsOf.P sLabelsOf.R false false [true] x = sLabelsOf.T N x := by kernel_rfl
theorem sLabelsOf.ok (N : Nat) : Sound Tryz.prog 147 [.d] (sLabelsOf.S N) := by
  have hs : SigsOK Tryz.prog (sLabelsOf.tb N) := sigs_of _ rfl ⟨sConfigRight.ok N, sl09Labels.ok N, trivial⟩
  have g0 : Goods Tryz.prog (sLabelsOf.tb N) Tryz.f147 [] := goods_nil
  exact ok_of tabOK mixed rfl hs Tryz.func147 g0 (by kernel_rfl) rfl (sLabelsOf.eq N) (fun _ => rfl)
def sQuotaOf.i0_0 : Tmpl := ⟨3, 32, [2, 3, 5], [.cp 0 0, .cp 1 0, .d none (.int .i64)], [.cells [.d (some 0) T44, .d (some 1) T45, .d (some 2) T46, .d (some 3) (.int .i64)], .cells [.d (some 4) (.int .i64), .d (some 5) (.int .i64)], .dead]⟩
def sQuotaOf.o0_0 : Tmpl := ⟨3, 32, [], [], [.dead, .dead, .dead]⟩
def sQuotaOf.r0_0 : Tmpl := ⟨3, 32, [4], [.d none (.int .i64)], [.dead, .dead, .dead]⟩
def sQuotaOf.G0_0 (N : Nat) : Frag := ⟨sQuotaOf.i0_0, sQuotaOf.o0_0, sQuotaOf.r0_0, sQuotaOf.C0_0, sQuotaOf.M0_0, sQuotaOf.O0_0, sQuotaOf.Q0_0, sQuotaOf.L0_0 N⟩
def sQuotaOf.tb (N : Nat) : Tabs := ⟨tt, fun a b c => look3 a b c [(0, 1, 1, CE.sig 147 [.d] (sLabelsOf.S N)), (0, 1, 3, CE.sig 58 [.d, .d] (sl05Cleared.S N))], fun a b => look2 a b [(0, 0, sQuotaOf.G0_0 N)]⟩
theorem sQuotaOf.eq0_0 (N : Nat) (c : sQuotaOf.C0_0.D) (m : sQuotaOf.M0_0.D) : roundV (sQuotaOf.tb N) 0 Tryz.f85 0 sQuotaOf.i0_0 sQuotaOf.o0_0 sQuotaOf.r0_0 sQuotaOf.M0_0 sQuotaOf.O0_0 sQuotaOf.Q0_0 (unpack sQuotaOf.C0_0 c) m = (sQuotaOf.B0_0 N c m).map (withC (stays (unpack sQuotaOf.C0_0 c) [0, 1, 2, 3, 4, 5]) (stays (unpack sQuotaOf.C0_0 c) []) (stays (unpack sQuotaOf.C0_0 c) [])) := by kernel_rfl
def sQuotaOf.S (N : Nat) : Sig := ⟨sQuotaOf.P, sQuotaOf.R, false, false, [], false, sQuotaOf.F N⟩
theorem sQuotaOf.eq (N : Nat) (x : sQuotaOf.P.D) : topV (sQuotaOf.tb N) 0 Tryz.f85 [.d, .d] sQuotaOf.P sQuotaOf.R false false [] x = sQuotaOf.T N x := by kernel_rfl
theorem sQuotaOf.ok (N : Nat) : Sound Tryz.prog 85 [.d, .d] (sQuotaOf.S N) := by
  have hs : SigsOK Tryz.prog (sQuotaOf.tb N) := sigs_of _ rfl ⟨sLabelsOf.ok N, sl05Cleared.ok N, trivial⟩
  have g0 : Goods Tryz.prog (sQuotaOf.tb N) Tryz.f85 [] := goods_nil
  have g1 := goods_cons tabOK mixed rfl hs g0 0 (by kernel_rfl) (sQuotaOf.B0_0 N) N rfl (sQuotaOf.eq0_0 N)
  exact ok_of tabOK mixed rfl hs Tryz.func85 g1 (by kernel_rfl) rfl (sQuotaOf.eq N) (fun _ => rfl)
def sYardRight.i0_4 : Tmpl := ⟨4, 133, [1, 3, 4, 5, 6], [.cp 0 0, .row 4, .d (some 0) (.int .i64), .cp 3 0, .d none (.int .i64)], [.cells [.d (some 1) T44, .d (some 2) T45, .d (some 3) T46, .d (some 4) (.int .i64), .d (some 5) T49, .d (some 6) T50, .d (some 7) T51, .d (some 8) (.int .i64)], .dead, .dead, .cells [.d (some 9) (.int .i64), .d (some 10) (.int .i64), .d (some 11) (.int .i64), .d (some 12) .str, .d (some 13) (.int .i64), .d (some 14) (.int .i64), .d (some 15) (.int .i64), .d (some 16) (.int .i64), .d (some 17) (.int .i64), .d (some 18) (.int .i64), .d (some 19) (.int .i64), .d (some 20) (.int .i64), .d (some 21) (.int .i64), .d (some 22) T89], .row none 4 .bool]⟩
def sYardRight.o0_4 : Tmpl := ⟨4, 133, [1, 3, 4], [.cp 0 0, .row 4, .d (some 0) (.int .i64)], [.cells [.d (some 1) T44, .d (some 2) T45, .d (some 3) T46, .d (some 4) (.int .i64), .d (some 5) T49, .d (some 6) T50, .d (some 7) T51, .d (some 8) (.int .i64)], .dead, .dead, .dead, .row none 4 .bool]⟩
def sYardRight.r0_4 : Tmpl := ⟨4, 133, [2], [.d none .bool], [.dead, .dead, .dead, .dead]⟩
def sYardRight.G0_4 (N : Nat) : Frag := ⟨sYardRight.i0_4, sYardRight.o0_4, sYardRight.r0_4, sYardRight.C0_4, sYardRight.M0_4, sYardRight.O0_4, sYardRight.Q0_4, sYardRight.L0_4 N⟩
def sYardRight.i0_0 : Tmpl := ⟨2, 133, [1, 3, 4], [.cp 0 0, .row 2, .d none (.int .i64)], [.cells [.d (some 0) T44, .d (some 1) T45, .d (some 2) T46, .d (some 3) (.int .i64), .d (some 4) T49, .d (some 5) T50, .d (some 6) T51, .d (some 7) (.int .i64)], .dead, .row none 4 .bool]⟩
def sYardRight.o0_0 : Tmpl := ⟨2, 133, [1], [.cp 0 0], [.cells [.d (some 0) T44, .d (some 1) T45, .d (some 2) T46, .d (some 3) (.int .i64), .d (some 4) T49, .d (some 5) T50, .d (some 6) T51, .d (some 7) (.int .i64)], .dead]⟩
def sYardRight.r0_0 : Tmpl := ⟨2, 133, [2], [.d none .bool], [.dead, .dead]⟩
def sYardRight.G0_0 (N : Nat) : Frag := ⟨sYardRight.i0_0, sYardRight.o0_0, sYardRight.r0_0, sYardRight.C0_0, sYardRight.M0_0, sYardRight.O0_0, sYardRight.Q0_0, sYardRight.L0_0 N⟩
def sYardRight.i0_8 : Tmpl := ⟨3, 133, [1, 7, 8], [.cp 0 0, .row 3, .d none (.int .i64)], [.cells [.d (some 0) T44, .d (some 1) T45, .d (some 2) T46, .d (some 3) (.int .i64), .d (some 4) T49, .d (some 5) T50, .d (some 6) T51, .d (some 7) (.int .i64)], .dead, .dead, .row (some 8) 87 T86]⟩
def sYardRight.o0_8 : Tmpl := ⟨3, 133, [1, 7], [.cp 0 0, .row 3], [.cells [.d (some 0) T44, .d (some 1) T45, .d (some 2) T46, .d (some 3) (.int .i64), .d (some 4) T49, .d (some 5) T50, .d (some 6) T51, .d (some 7) (.int .i64)], .dead, .dead, .row (some 8) 87 T86]⟩
def sYardRight.r0_8 : Tmpl := ⟨3, 133, [2], [.d none .bool], [.dead, .dead, .dead]⟩
def sYardRight.G0_8 (N : Nat) : Frag := ⟨sYardRight.i0_8, sYardRight.o0_8, sYardRight.r0_8, sYardRight.C0_8, sYardRight.M0_8, sYardRight.O0_8, sYardRight.Q0_8, sYardRight.L0_8 N⟩
def sYardRight.i0_12 : Tmpl := ⟨4, 133, [1, 7, 9], [.cp 0 0, .row 4, .d none (.int .i64)], [.cells [.d (some 0) T44, .d (some 1) T45, .d (some 2) T46, .d (some 3) (.int .i64), .d (some 4) T49, .d (some 5) T50, .d (some 6) T51, .d (some 7) (.int .i64)], .dead, .dead, .dead, .row (some 8) 87 T86]⟩
def sYardRight.o0_12 : Tmpl := ⟨4, 133, [], [], [.dead, .dead, .dead, .dead]⟩
def sYardRight.r0_12 : Tmpl := ⟨4, 133, [2], [.d none .bool], [.dead, .dead, .dead, .dead]⟩
def sYardRight.G0_12 (N : Nat) : Frag := ⟨sYardRight.i0_12, sYardRight.o0_12, sYardRight.r0_12, sYardRight.C0_12, sYardRight.M0_12, sYardRight.O0_12, sYardRight.Q0_12, sYardRight.L0_12 N⟩
def sYardRight.tb (N : Nat) : Tabs := ⟨tt, fun a b c => look3 a b c [(0, 1, 2, CE.sig 78 [.d] (sl03Now.S N)), (0, 1, 7, CE.sig 79 [.d] (sConfigRight.S N)), (0, 1, 13, CE.sig 80 [.d] (sNodesRight.S N)), (0, 1, 29, CE.sig 81 [.d] (sTasksRight.S N)), (0, 1, 35, CE.sig 82 [.d] (sUsesRight.S N)), (0, 8, 2, CE.sig 83 [.d, .d] (sl13Task.S N)), (0, 16, 3, CE.sig 28 [.d] (sl09Labels.S N)), (0, 20, 7, CE.sig 58 [.d, .d] (sl05Cleared.S N)), (0, 25, 6, CE.sig 84 [.d, .d] (sLiveOf.S N)), (0, 25, 13, CE.sig 85 [.d, .d] (sQuotaOf.S N))], fun a b => look2 a b [(0, 4, sYardRight.G0_4 N), (0, 0, sYardRight.G0_0 N), (0, 8, sYardRight.G0_8 N), (0, 12, sYardRight.G0_12 N)]⟩
theorem sYardRight.eq0_4 (N : Nat) (c : sYardRight.C0_4.D) (m : sYardRight.M0_4.D) : roundV (sYardRight.tb N) 0 Tryz.f39 2 sYardRight.i0_4 sYardRight.o0_4 sYardRight.r0_4 sYardRight.M0_4 sYardRight.O0_4 sYardRight.Q0_4 (unpack sYardRight.C0_4 c) m = (sYardRight.B0_4 N c m).map (withC (stays (unpack sYardRight.C0_4 c) [0, 1, 2, 3, 4, 5, 6, 7, 8, 9, 10, 11, 12, 13, 14, 15, 16, 17, 18, 19, 20, 21, 22]) (stays (unpack sYardRight.C0_4 c) [0, 1, 2, 3, 4, 5, 6, 7, 8]) (stays (unpack sYardRight.C0_4 c) [])) := by kernel_rfl
theorem sYardRight.eq0_0 (N : Nat) (c : sYardRight.C0_0.D) (m : sYardRight.M0_0.D) : roundV (sYardRight.tb N) 0 Tryz.f39 0 sYardRight.i0_0 sYardRight.o0_0 sYardRight.r0_0 sYardRight.M0_0 sYardRight.O0_0 sYardRight.Q0_0 (unpack sYardRight.C0_0 c) m = (sYardRight.B0_0 N c m).map (withC (stays (unpack sYardRight.C0_0 c) [0, 1, 2, 3, 4, 5, 6, 7]) (stays (unpack sYardRight.C0_0 c) [0, 1, 2, 3, 4, 5, 6, 7]) (stays (unpack sYardRight.C0_0 c) [])) := by kernel_rfl
theorem sYardRight.eq0_8 (N : Nat) (c : sYardRight.C0_8.D) (m : sYardRight.M0_8.D) : roundV (sYardRight.tb N) 0 Tryz.f39 4 sYardRight.i0_8 sYardRight.o0_8 sYardRight.r0_8 sYardRight.M0_8 sYardRight.O0_8 sYardRight.Q0_8 (unpack sYardRight.C0_8 c) m = (sYardRight.B0_8 N c m).map (withC (stays (unpack sYardRight.C0_8 c) [0, 1, 2, 3, 4, 5, 6, 7, 8]) (stays (unpack sYardRight.C0_8 c) [0, 1, 2, 3, 4, 5, 6, 7, 8]) (stays (unpack sYardRight.C0_8 c) [])) := by kernel_rfl
theorem sYardRight.eq0_12 (N : Nat) (c : sYardRight.C0_12.D) (m : sYardRight.M0_12.D) : roundV (sYardRight.tb N) 0 Tryz.f39 6 sYardRight.i0_12 sYardRight.o0_12 sYardRight.r0_12 sYardRight.M0_12 sYardRight.O0_12 sYardRight.Q0_12 (unpack sYardRight.C0_12 c) m = (sYardRight.B0_12 N c m).map (withC (stays (unpack sYardRight.C0_12 c) [0, 1, 2, 3, 4, 5, 6, 7, 8]) (stays (unpack sYardRight.C0_12 c) []) (stays (unpack sYardRight.C0_12 c) [])) := by kernel_rfl
def sYardRight.S (N : Nat) : Sig := ⟨sYardRight.P, sYardRight.R, false, false, [], false, sYardRight.F N⟩
theorem sYardRight.eq (N : Nat) (x : sYardRight.P.D) : topV (sYardRight.tb N) 0 Tryz.f39 [.d] sYardRight.P sYardRight.R false false [] x = sYardRight.T N x := by kernel_rfl
theorem sYardRight.ok (N : Nat) : Sound Tryz.prog 39 [.d] (sYardRight.S N) := by
  have hs : SigsOK Tryz.prog (sYardRight.tb N) := sigs_of _ rfl ⟨sl03Now.ok N, sConfigRight.ok N, sNodesRight.ok N, sTasksRight.ok N, sUsesRight.ok N, sl13Task.ok N, sl09Labels.ok N, sl05Cleared.ok N, sLiveOf.ok N, sQuotaOf.ok N, trivial⟩
  have g0 : Goods Tryz.prog (sYardRight.tb N) Tryz.f39 [] := goods_nil
  have g1 := goods_cons tabOK mixed rfl hs g0 2 (by kernel_rfl) (sYardRight.B0_4 N) N rfl (sYardRight.eq0_4 N)
  have g2 := goods_cons tabOK mixed rfl hs g1 0 (by kernel_rfl) (sYardRight.B0_0 N) N rfl (sYardRight.eq0_0 N)
  have g3 := goods_cons tabOK mixed rfl hs g2 4 (by kernel_rfl) (sYardRight.B0_8 N) N rfl (sYardRight.eq0_8 N)
  have g4 := goods_cons tabOK mixed rfl hs g3 6 (by kernel_rfl) (sYardRight.B0_12 N) N rfl (sYardRight.eq0_12 N)
  exact ok_of tabOK mixed rfl hs Tryz.func39 g4 (by kernel_rfl) rfl (sYardRight.eq N) (fun _ => rfl)
def sMailRight.i0_4 : Tmpl := ⟨3, 95, [2, 3, 5, 6, 7], [.cp 0 0, .cp 1 0, .d (some 0) (.int .i64), .cp 2 0, .d none (.int .i64)], [.cells [.d (some 1) T44, .d (some 2) T45, .d (some 3) T46, .d (some 4) (.int .i64)], .cells [.d (some 5) T54], .cells [.d (some 6) T89, .d (some 7) T89, .d (some 8) T90]]⟩
def sMailRight.o0_4 : Tmpl := ⟨3, 95, [2, 3, 5], [.cp 0 0, .cp 1 0, .d (some 0) (.int .i64)], [.cells [.d (some 1) T44, .d (some 2) T45, .d (some 3) T46, .d (some 4) (.int .i64)], .cells [.d (some 5) T54], .dead]⟩
def sMailRight.r0_4 : Tmpl := ⟨3, 95, [4], [.d none .bool], [.dead, .dead, .dead]⟩
def sMailRight.G0_4 (N : Nat) : Frag := ⟨sMailRight.i0_4, sMailRight.o0_4, sMailRight.r0_4, sMailRight.C0_4, sMailRight.M0_4, sMailRight.O0_4, sMailRight.Q0_4, sMailRight.L0_4 N⟩
def sMailRight.i0_0 : Tmpl := ⟨2, 95, [2, 3, 5], [.cp 0 0, .cp 1 0, .d none (.int .i64)], [.cells [.d (some 0) T44, .d (some 1) T45, .d (some 2) T46, .d (some 3) (.int .i64)], .cells [.d (some 4) T54]]⟩
def sMailRight.o0_0 : Tmpl := ⟨2, 95, [], [], [.dead, .dead]⟩
def sMailRight.r0_0 : Tmpl := ⟨2, 95, [4], [.d none .bool], [.dead, .dead]⟩
def sMailRight.G0_0 (N : Nat) : Frag := ⟨sMailRight.i0_0, sMailRight.o0_0, sMailRight.r0_0, sMailRight.C0_0, sMailRight.M0_0, sMailRight.O0_0, sMailRight.Q0_0, sMailRight.L0_0 N⟩
def sMailRight.tb (N : Nat) : Tabs := ⟨tt, fun a b c => look3 a b c [(0, 1, 1, CE.sig 79 [.d] (sConfigRight.S N)), (0, 12, 6, CE.sig 78 [.d] (sl03Now.S N))], fun a b => look2 a b [(0, 4, sMailRight.G0_4 N), (0, 0, sMailRight.G0_0 N)]⟩
theorem sMailRight.eq0_4 (N : Nat) (c : sMailRight.C0_4.D) (m : sMailRight.M0_4.D) : roundV (sMailRight.tb N) 0 Tryz.f40 2 sMailRight.i0_4 sMailRight.o0_4 sMailRight.r0_4 sMailRight.M0_4 sMailRight.O0_4 sMailRight.Q0_4 (unpack sMailRight.C0_4 c) m = (sMailRight.B0_4 N c m).map (withC (stays (unpack sMailRight.C0_4 c) [0, 1, 2, 3, 4, 5, 6, 7, 8]) (stays (unpack sMailRight.C0_4 c) [0, 1, 2, 3, 4, 5]) (stays (unpack sMailRight.C0_4 c) [])) := by kernel_rfl
theorem sMailRight.eq0_0 (N : Nat) (c : sMailRight.C0_0.D) (m : sMailRight.M0_0.D) : roundV (sMailRight.tb N) 0 Tryz.f40 0 sMailRight.i0_0 sMailRight.o0_0 sMailRight.r0_0 sMailRight.M0_0 sMailRight.O0_0 sMailRight.Q0_0 (unpack sMailRight.C0_0 c) m = (sMailRight.B0_0 N c m).map (withC (stays (unpack sMailRight.C0_0 c) [0, 1, 2, 3, 4]) (stays (unpack sMailRight.C0_0 c) []) (stays (unpack sMailRight.C0_0 c) [])) := by kernel_rfl
def sMailRight.S (N : Nat) : Sig := ⟨sMailRight.P, sMailRight.R, false, false, [], false, sMailRight.F N⟩
theorem sMailRight.eq (N : Nat) (x : sMailRight.P.D) : topV (sMailRight.tb N) 0 Tryz.f40 [.d, .d] sMailRight.P sMailRight.R false false [] x = sMailRight.T N x := by kernel_rfl
theorem sMailRight.ok (N : Nat) : Sound Tryz.prog 40 [.d, .d] (sMailRight.S N) := by
  have hs : SigsOK Tryz.prog (sMailRight.tb N) := sigs_of _ rfl ⟨sConfigRight.ok N, sl03Now.ok N, trivial⟩
  have g0 : Goods Tryz.prog (sMailRight.tb N) Tryz.f40 [] := goods_nil
  have g1 := goods_cons tabOK mixed rfl hs g0 2 (by kernel_rfl) (sMailRight.B0_4 N) N rfl (sMailRight.eq0_4 N)
  have g2 := goods_cons tabOK mixed rfl hs g1 0 (by kernel_rfl) (sMailRight.B0_0 N) N rfl (sMailRight.eq0_0 N)
  exact ok_of tabOK mixed rfl hs Tryz.func40 g2 (by kernel_rfl) rfl (sMailRight.eq N) (fun _ => rfl)
def sStateRight.i0_0 : Tmpl := ⟨1, 49, [1, 3], [.cp 0 0, .d none (.int .i64)], [.cells [.d (some 0) T44, .d (some 1) T45, .d (some 2) T46, .d (some 3) (.int .i64), .d (some 4) T49, .d (some 5) T50, .d (some 6) T51, .d (some 7) (.int .i64), .d (some 8) T54]]⟩
def sStateRight.o0_0 : Tmpl := ⟨1, 49, [], [], [.dead]⟩
def sStateRight.r0_0 : Tmpl := ⟨1, 49, [2], [.d none .bool], [.dead]⟩
def sStateRight.G0_0 (N : Nat) : Frag := ⟨sStateRight.i0_0, sStateRight.o0_0, sStateRight.r0_0, sStateRight.C0_0, sStateRight.M0_0, sStateRight.O0_0, sStateRight.Q0_0, sStateRight.L0_0 N⟩
def sStateRight.tb (N : Nat) : Tabs := ⟨tt, fun a b c => look3 a b c [(0, 1, 2, CE.sig 39 [.d] (sYardRight.S N)), (0, 1, 10, CE.sig 40 [.d, .d] (sMailRight.S N))], fun a b => look2 a b [(0, 0, sStateRight.G0_0 N)]⟩
theorem sStateRight.eq0_0 (N : Nat) (c : sStateRight.C0_0.D) (m : sStateRight.M0_0.D) : roundV (sStateRight.tb N) 0 Tryz.f16 0 sStateRight.i0_0 sStateRight.o0_0 sStateRight.r0_0 sStateRight.M0_0 sStateRight.O0_0 sStateRight.Q0_0 (unpack sStateRight.C0_0 c) m = (sStateRight.B0_0 N c m).map (withC (stays (unpack sStateRight.C0_0 c) [0, 1, 2, 3, 4, 5, 6, 7, 8]) (stays (unpack sStateRight.C0_0 c) []) (stays (unpack sStateRight.C0_0 c) [])) := by kernel_rfl
def sStateRight.S (N : Nat) : Sig := ⟨sStateRight.P, sStateRight.R, false, false, [], false, sStateRight.F N⟩
theorem sStateRight.eq (N : Nat) (x : sStateRight.P.D) : topV (sStateRight.tb N) 0 Tryz.f16 [.d] sStateRight.P sStateRight.R false false [] x = sStateRight.T N x := by kernel_rfl
theorem sStateRight.ok (N : Nat) : Sound Tryz.prog 16 [.d] (sStateRight.S N) := by
  have hs : SigsOK Tryz.prog (sStateRight.tb N) := sigs_of _ rfl ⟨sYardRight.ok N, sMailRight.ok N, trivial⟩
  have g0 : Goods Tryz.prog (sStateRight.tb N) Tryz.f16 [] := goods_nil
  have g1 := goods_cons tabOK mixed rfl hs g0 0 (by kernel_rfl) (sStateRight.B0_0 N) N rfl (sStateRight.eq0_0 N)
  exact ok_of tabOK mixed rfl hs Tryz.func16 g1 (by kernel_rfl) rfl (sStateRight.eq N) (fun _ => rfl)
def sDiskRight.i0_0 : Tmpl := ⟨1, 49, [1, 3], [.cp 0 0, .d none (.int .i64)], [.cells [.d (some 0) T59, .d (some 1) (.int .i64)]]⟩
def sDiskRight.o0_0 : Tmpl := ⟨1, 49, [], [], [.dead]⟩
def sDiskRight.r0_0 : Tmpl := ⟨1, 49, [2], [.d none .bool], [.dead]⟩
def sDiskRight.G0_0 (N : Nat) : Frag := ⟨sDiskRight.i0_0, sDiskRight.o0_0, sDiskRight.r0_0, sDiskRight.C0_0, sDiskRight.M0_0, sDiskRight.O0_0, sDiskRight.Q0_0, sDiskRight.L0_0 N⟩
def sDiskRight.tb (N : Nat) : Tabs := ⟨tt, fun a b c => look3 a b c [(0, 1, 13, CE.sig 41 [.d, .d, .d] (sl02Is.S N))], fun a b => look2 a b [(0, 0, sDiskRight.G0_0 N)]⟩
theorem sDiskRight.eq0_0 (N : Nat) (c : sDiskRight.C0_0.D) (m : sDiskRight.M0_0.D) : roundV (sDiskRight.tb N) 0 Tryz.f17 0 sDiskRight.i0_0 sDiskRight.o0_0 sDiskRight.r0_0 sDiskRight.M0_0 sDiskRight.O0_0 sDiskRight.Q0_0 (unpack sDiskRight.C0_0 c) m = (sDiskRight.B0_0 N c m).map (withC (stays (unpack sDiskRight.C0_0 c) [0, 1]) (stays (unpack sDiskRight.C0_0 c) []) (stays (unpack sDiskRight.C0_0 c) [])) := by kernel_rfl
def sDiskRight.S (N : Nat) : Sig := ⟨sDiskRight.P, sDiskRight.R, false, false, [], false, sDiskRight.F N⟩
theorem sDiskRight.eq (N : Nat) (x : sDiskRight.P.D) : topV (sDiskRight.tb N) 0 Tryz.f17 [.d] sDiskRight.P sDiskRight.R false false [] x = sDiskRight.T N x := by kernel_rfl
theorem sDiskRight.ok (N : Nat) : Sound Tryz.prog 17 [.d] (sDiskRight.S N) := by
  have hs : SigsOK Tryz.prog (sDiskRight.tb N) := sigs_of _ rfl ⟨sl02Is.ok N, trivial⟩
  have g0 : Goods Tryz.prog (sDiskRight.tb N) Tryz.f17 [] := goods_nil
  have g1 := goods_cons tabOK mixed rfl hs g0 0 (by kernel_rfl) (sDiskRight.B0_0 N) N rfl (sDiskRight.eq0_0 N)
  exact ok_of tabOK mixed rfl hs Tryz.func17 g1 (by kernel_rfl) rfl (sDiskRight.eq N) (fun _ => rfl)
def sl18Regions.tb (N : Nat) : Tabs := ⟨tt, fun a b c => look3 a b c [(0, 1, 2, CE.sig 28 [.d] (sl09Labels.S N))], fun a b => look2 a b []⟩
def sl18Regions.S (N : Nat) : Sig := ⟨sl18Regions.P, sl18Regions.R, false, false, [], false, sl18Regions.F N⟩
theorem sl18Regions.eq (N : Nat) (x : sl18Regions.P.D) : topV (sl18Regions.tb N) 0 Tryz.f18 [.d] sl18Regions.P sl18Regions.R false false [] x = sl18Regions.T N x := by kernel_rfl
theorem sl18Regions.ok (N : Nat) : Sound Tryz.prog 18 [.d] (sl18Regions.S N) := by
  have hs : SigsOK Tryz.prog (sl18Regions.tb N) := sigs_of _ rfl ⟨sl09Labels.ok N, trivial⟩
  have g0 : Goods Tryz.prog (sl18Regions.tb N) Tryz.f18 [] := goods_nil
  exact ok_of tabOK mixed rfl hs Tryz.func18 g0 (by kernel_rfl) rfl (sl18Regions.eq N) (fun _ => rfl)
def sHouseRight.tb (N : Nat) : Tabs := ⟨tt, fun a b c => look3 a b c [(0, 1, 2, CE.sig 16 [.d] (sStateRight.S N)), (0, 1, 6, CE.sig 17 [.d] (sDiskRight.S N)), (0, 1, 17, CE.sig 18 [.d] (sl18Regions.S N)), (0, 1, 29, CE.sig 19 [.d] (sl02Time.S N))], fun a b => look2 a b []⟩
def sHouseRight.S (N : Nat) : Sig := ⟨sHouseRight.P, sHouseRight.R, false, false, [], false, sHouseRight.F N⟩
theorem sHouseRight.eq (N : Nat) (x : sHouseRight.P.D) : topV (sHouseRight.tb N) 0 Tryz.f6 [.d] sHouseRight.P sHouseRight.R false false [] x = sHouseRight.T N x := by kernel_rfl
theorem sHouseRight.ok (N : Nat) : Sound Tryz.prog 6 [.d] (sHouseRight.S N) := by
  have hs : SigsOK Tryz.prog (sHouseRight.tb N) := sigs_of _ rfl ⟨sStateRight.ok N, sDiskRight.ok N, sl18Regions.ok N, sl02Time.ok N, trivial⟩
  have g0 : Goods Tryz.prog (sHouseRight.tb N) Tryz.f6 [] := goods_nil
  exact ok_of tabOK mixed rfl hs Tryz.func6 g0 (by kernel_rfl) rfl (sHouseRight.eq N) (fun _ => rfl)
def iwithin.tb (N : Nat) : Tabs := ⟨tt, fun a b c => look3 a b c [], fun a b => look2 a b []⟩
def iwithin.S (N : Nat) : Sig := ⟨iwithin.P, iwithin.R, false, false, [], false, iwithin.F N⟩
theorem iwithin.eq (N : Nat) (x : iwithin.P.D) : topV (iwithin.tb N) 0 Tryz.f34 [.d, .d, .d] iwithin.P iwithin.R false false [] x = iwithin.T N x := by kernel_rfl
theorem iwithin.ok (N : Nat) : Sound Tryz.prog 34 [.d, .d, .d] (iwithin.S N) := by
  have hs : SigsOK Tryz.prog (iwithin.tb N) := sigs_of _ rfl trivial
  have g0 : Goods Tryz.prog (iwithin.tb N) Tryz.f34 [] := goods_nil
  exact ok_of tabOK mixed rfl hs Tryz.func34 g0 (by kernel_rfl) rfl (iwithin.eq N) (fun _ => rfl)
def iLabelRight.tb (N : Nat) : Tabs := ⟨tt, fun a b c => look3 a b c [(0, 1, 2, CE.sig 34 [.d, .d, .d] (iwithin.S N)), (0, 1, 6, CE.sig 34 [.d, .d, .d] (iwithin.S N))], fun a b => look2 a b []⟩
def iLabelRight.S (N : Nat) : Sig := ⟨iLabelRight.P, iLabelRight.R, false, false, [], false, iLabelRight.F N⟩
theorem iLabelRight.eq (N : Nat) (x : iLabelRight.P.D) : topV (iLabelRight.tb N) 0 Tryz.f157 [.d] iLabelRight.P iLabelRight.R false false [] x = iLabelRight.T N x := by kernel_rfl
theorem iLabelRight.ok (N : Nat) : Sound Tryz.prog 157 [.d] (iLabelRight.S N) := by
  have hs : SigsOK Tryz.prog (iLabelRight.tb N) := sigs_of _ rfl ⟨iwithin.ok N, iwithin.ok N, trivial⟩
  have g0 : Goods Tryz.prog (iLabelRight.tb N) Tryz.f157 [] := goods_nil
  exact ok_of tabOK mixed rfl hs Tryz.func157 g0 (by kernel_rfl) rfl (iLabelRight.eq N) (fun _ => rfl)
def iChain_1.tb (N : Nat) : Tabs := ⟨tt, fun a b c => look3 a b c [(0, 1, 1, CE.sig 157 [.d] (iLabelRight.S N))], fun a b => look2 a b []⟩
def iChain_1.S (N : Nat) : Sig := ⟨iChain_1.P, iChain_1.R, false, false, [], false, iChain_1.F N⟩
theorem iChain_1.eq (N : Nat) (x : iChain_1.P.D) : topV (iChain_1.tb N) 0 Tryz.f232 [.d] iChain_1.P iChain_1.R false false [] x = iChain_1.T N x := by kernel_rfl
theorem iChain_1.ok (N : Nat) : Sound Tryz.prog 232 [.d] (iChain_1.S N) := by
  have hs : SigsOK Tryz.prog (iChain_1.tb N) := sigs_of _ rfl ⟨iLabelRight.ok N, trivial⟩
  have g0 : Goods Tryz.prog (iChain_1.tb N) Tryz.f232 [] := goods_nil
  exact ok_of tabOK mixed rfl hs Tryz.func232 g0 (by kernel_rfl) rfl (iChain_1.eq N) (fun _ => rfl)
def slIndexFunc_iChain_1.i0_0 : Tmpl := ⟨0, 19, [0, 1, 7, 8], [.d (some 0) T82, .fn 232 [], .d (some 1) (.int .i64), .d none (.int .i64)], []⟩
def slIndexFunc_iChain_1.o0_0 : Tmpl := ⟨0, 19, [], [], []⟩
def slIndexFunc_iChain_1.r0_0 : Tmpl := ⟨0, 19, [4], [.d none (.int .i64)], []⟩
def slIndexFunc_iChain_1.G0_0 (N : Nat) : Frag := ⟨slIndexFunc_iChain_1.i0_0, slIndexFunc_iChain_1.o0_0, slIndexFunc_iChain_1.r0_0, slIndexFunc_iChain_1.C0_0, slIndexFunc_iChain_1.M0_0, slIndexFunc_iChain_1.O0_0, slIndexFunc_iChain_1.Q0_0, slIndexFunc_iChain_1.L0_0 N⟩
def slIndexFunc_iChain_1.tb (N : Nat) : Tabs := ⟨tt, fun a b c => look3 a b c [(0, 4, 5, CE.sig 232 [.d] (iChain_1.S N))], fun a b => look2 a b [(0, 0, slIndexFunc_iChain_1.G0_0 N)]⟩
theorem slIndexFunc_iChain_1.eq0_0 (N : Nat) (c : slIndexFunc_iChain_1.C0_0.D) (m : slIndexFunc_iChain_1.M0_0.D) : roundV (slIndexFunc_iChain_1.tb N) 0 Tryz.f167 0 slIndexFunc_iChain_1.i0_0 slIndexFunc_iChain_1.o0_0 slIndexFunc_iChain_1.r0_0 slIndexFunc_iChain_1.M0_0 slIndexFunc_iChain_1.O0_0 slIndexFunc_iChain_1.Q0_0 (unpack slIndexFunc_iChain_1.C0_0 c) m = (slIndexFunc_iChain_1.B0_0 N c m).map (withC (stays (unpack slIndexFunc_iChain_1.C0_0 c) [0, 1]) (stays (unpack slIndexFunc_iChain_1.C0_0 c) []) (stays (unpack slIndexFunc_iChain_1.C0_0 c) [])) := by kernel_rfl
def slIndexFunc_iChain_1.S (N : Nat) : Sig := ⟨slIndexFunc_iChain_1.P, slIndexFunc_iChain_1.R, false, false, [], false, slIndexFunc_iChain_1.F N⟩
theorem slIndexFunc_iChain_1.eq (N : Nat) (x : slIndexFunc_iChain_1.P.D) : topV (slIndexFunc_iChain_1.tb N) 0 Tryz.f167 [.d, .fn 232 0] slIndexFunc_iChain_1.P slIndexFunc_iChain_1.R false false [] x = slIndexFunc_iChain_1.T N x := by kernel_rfl
theorem slIndexFunc_iChain_1.ok (N : Nat) : Sound Tryz.prog 167 [.d, .fn 232 0] (slIndexFunc_iChain_1.S N) := by
  have hs : SigsOK Tryz.prog (slIndexFunc_iChain_1.tb N) := sigs_of _ rfl ⟨iChain_1.ok N, trivial⟩
  have g0 : Goods Tryz.prog (slIndexFunc_iChain_1.tb N) Tryz.f167 [] := goods_nil
  have g1 := goods_cons tabOK mixed rfl hs g0 0 (by kernel_rfl) (slIndexFunc_iChain_1.B0_0 N) N rfl (slIndexFunc_iChain_1.eq0_0 N)
  exact ok_of tabOK mixed rfl hs Tryz.func167 g1 (by kernel_rfl) rfl (slIndexFunc_iChain_1.eq N) (fun _ => rfl)
def slContainsFunc_iChain_1.tb (N : Nat) : Tabs := ⟨tt, fun a b c => look3 a b c [(0, 1, 2, CE.sig 167 [.d, .fn 232 0] (slIndexFunc_iChain_1.S N))], fun a b => look2 a b []⟩
def slContainsFunc_iChain_1.S (N : Nat) : Sig := ⟨slContainsFunc_iChain_1.P, slContainsFunc_iChain_1.R, false, false, [], false, slContainsFunc_iChain_1.F N⟩
theorem slContainsFunc_iChain_1.eq (N : Nat) (x : slContainsFunc_iChain_1.P.D) : topV (slContainsFunc_iChain_1.tb N) 0 Tryz.f93 [.d, .fn 232 0] slContainsFunc_iChain_1.P slContainsFunc_iChain_1.R false false [] x = slContainsFunc_iChain_1.T N x := by kernel_rfl
theorem slContainsFunc_iChain_1.ok (N : Nat) : Sound Tryz.prog 93 [.d, .fn 232 0] (slContainsFunc_iChain_1.S N) := by
  have hs : SigsOK Tryz.prog (slContainsFunc_iChain_1.tb N) := sigs_of _ rfl ⟨slIndexFunc_iChain_1.ok N, trivial⟩
  have g0 : Goods Tryz.prog (slContainsFunc_iChain_1.tb N) Tryz.f93 [] := goods_nil
  exact ok_of tabOK mixed rfl hs Tryz.func93 g0 (by kernel_rfl) rfl (slContainsFunc_iChain_1.eq N) (fun _ => rfl)
def ibelow.tb (N : Nat) : Tabs := ⟨tt, fun a b c => look3 a b c [], fun a b => look2 a b []⟩
def ibelow.S (N : Nat) : Sig := ⟨ibelow.P, ibelow.R, false, false, [], false, ibelow.F N⟩
theorem ibelow.eq (N : Nat) (x : ibelow.P.D) : topV (ibelow.tb N) 0 Tryz.f205 [.d, .d] ibelow.P ibelow.R false false [] x = ibelow.T N x := by kernel_rfl
theorem ibelow.ok (N : Nat) : Sound Tryz.prog 205 [.d, .d] (ibelow.S N) := by
  have hs : SigsOK Tryz.prog (ibelow.tb N) := sigs_of _ rfl trivial
  have g0 : Goods Tryz.prog (ibelow.tb N) Tryz.f205 [] := goods_nil
  exact ok_of tabOK mixed rfl hs Tryz.func205 g0 (by kernel_rfl) rfl (ibelow.eq N) (fun _ => rfl)
def iChain.i0_0 : Tmpl := ⟨0, 45, [0, 3], [.d (some 0) T82, .d none (.int .i64)], []⟩
def iChain.o0_0 : Tmpl := ⟨0, 45, [], [], []⟩
def iChain.r0_0 : Tmpl := ⟨0, 45, [2], [.d none .bool], []⟩
def iChain.G0_0 (N : Nat) : Frag := ⟨iChain.i0_0, iChain.o0_0, iChain.r0_0, iChain.C0_0, iChain.M0_0, iChain.O0_0, iChain.Q0_0, iChain.L0_0 N⟩
def iChain.tb (N : Nat) : Tabs := ⟨tt, fun a b c => look3 a b c [(0, 1, 10, CE.sig 93 [.d, .fn 232 0] (slContainsFunc_iChain_1.S N)), (0, 6, 20, CE.sig 205 [.d, .d] (ibelow.S N))], fun a b => look2 a b [(0, 0, iChain.G0_0 N)]⟩
theorem iChain.eq0_0 (N : Nat) (c : iChain.C0_0.D) (m : iChain.M0_0.D) : roundV (iChain.tb N) 0 Tryz.f202 0 iChain.i0_0 iChain.o0_0 iChain.r0_0 iChain.M0_0 iChain.O0_0 iChain.Q0_0 (unpack iChain.C0_0 c) m = (iChain.B0_0 N c m).map (withC (stays (unpack iChain.C0_0 c) [0]) (stays (unpack iChain.C0_0 c) []) (stays (unpack iChain.C0_0 c) [])) := by kernel_rfl
def iChain.S (N : Nat) : Sig := ⟨iChain.P, iChain.R, false, false, [], false, iChain.F N⟩
theorem iChain.eq (N : Nat) (x : iChain.P.D) : topV (iChain.tb N) 0 Tryz.f202 [.d] iChain.P iChain.R false false [] x = iChain.T N x := by kernel_rfl
theorem iChain.ok (N : Nat) : Sound Tryz.prog 202 [.d] (iChain.S N) := by
  have hs : SigsOK Tryz.prog (iChain.tb N) := sigs_of _ rfl ⟨slContainsFunc_iChain_1.ok N, ibelow.ok N, trivial⟩
  have g0 : Goods Tryz.prog (iChain.tb N) Tryz.f202 [] := goods_nil
  have g1 := goods_cons tabOK mixed rfl hs g0 0 (by kernel_rfl) (iChain.B0_0 N) N rfl (iChain.eq0_0 N)
  exact ok_of tabOK mixed rfl hs Tryz.func202 g1 (by kernel_rfl) rfl (iChain.eq N) (fun _ => rfl)
def iclearRight_1.tb (N : Nat) : Tabs := ⟨tt, fun a b c => look3 a b c [(0, 1, 1, CE.sig 202 [.d] (iChain.S N))], fun a b => look2 a b []⟩
def iclearRight_1.S (N : Nat) : Sig := ⟨iclearRight_1.P, iclearRight_1.R, false, false, [], false, iclearRight_1.F N⟩
theorem iclearRight_1.eq (N : Nat) (x : iclearRight_1.P.D) : topV (iclearRight_1.tb N) 0 Tryz.f201 [.d] iclearRight_1.P iclearRight_1.R false false [] x = iclearRight_1.T N x := by kernel_rfl
theorem iclearRight_1.ok (N : Nat) : Sound Tryz.prog 201 [.d] (iclearRight_1.S N) := by
  have hs : SigsOK Tryz.prog (iclearRight_1.tb N) := sigs_of _ rfl ⟨iChain.ok N, trivial⟩
  have g0 : Goods Tryz.prog (iclearRight_1.tb N) Tryz.f201 [] := goods_nil
  exact ok_of tabOK mixed rfl hs Tryz.func201 g0 (by kernel_rfl) rfl (iclearRight_1.eq N) (fun _ => rfl)
def slIndexFunc_iclearRight_1.i0_0 : Tmpl := ⟨0, 19, [0, 1, 7, 8], [.d (some 0) T44, .fn 201 [], .d (some 1) (.int .i64), .d none (.int .i64)], []⟩
def slIndexFunc_iclearRight_1.o0_0 : Tmpl := ⟨0, 19, [], [], []⟩
def slIndexFunc_iclearRight_1.r0_0 : Tmpl := ⟨0, 19, [4], [.d none (.int .i64)], []⟩
def slIndexFunc_iclearRight_1.G0_0 (N : Nat) : Frag := ⟨slIndexFunc_iclearRight_1.i0_0, slIndexFunc_iclearRight_1.o0_0, slIndexFunc_iclearRight_1.r0_0, slIndexFunc_iclearRight_1.C0_0, slIndexFunc_iclearRight_1.M0_0, slIndexFunc_iclearRight_1.O0_0, slIndexFunc_iclearRight_1.Q0_0, slIndexFunc_iclearRight_1.L0_0 N⟩
def slIndexFunc_iclearRight_1.tb (N : Nat) : Tabs := ⟨tt, fun a b c => look3 a b c [(0, 4, 5, CE.sig 201 [.d] (iclearRight_1.S N))], fun a b => look2 a b [(0, 0, slIndexFunc_iclearRight_1.G0_0 N)]⟩
theorem slIndexFunc_iclearRight_1.eq0_0 (N : Nat) (c : slIndexFunc_iclearRight_1.C0_0.D) (m : slIndexFunc_iclearRight_1.M0_0.D) : roundV (slIndexFunc_iclearRight_1.tb N) 0 Tryz.f231 0 slIndexFunc_iclearRight_1.i0_0 slIndexFunc_iclearRight_1.o0_0 slIndexFunc_iclearRight_1.r0_0 slIndexFunc_iclearRight_1.M0_0 slIndexFunc_iclearRight_1.O0_0 slIndexFunc_iclearRight_1.Q0_0 (unpack slIndexFunc_iclearRight_1.C0_0 c) m = (slIndexFunc_iclearRight_1.B0_0 N c m).map (withC (stays (unpack slIndexFunc_iclearRight_1.C0_0 c) [0, 1]) (stays (unpack slIndexFunc_iclearRight_1.C0_0 c) []) (stays (unpack slIndexFunc_iclearRight_1.C0_0 c) [])) := by kernel_rfl
def slIndexFunc_iclearRight_1.S (N : Nat) : Sig := ⟨slIndexFunc_iclearRight_1.P, slIndexFunc_iclearRight_1.R, false, false, [], false, slIndexFunc_iclearRight_1.F N⟩
theorem slIndexFunc_iclearRight_1.eq (N : Nat) (x : slIndexFunc_iclearRight_1.P.D) : topV (slIndexFunc_iclearRight_1.tb N) 0 Tryz.f231 [.d, .fn 201 0] slIndexFunc_iclearRight_1.P slIndexFunc_iclearRight_1.R false false [] x = slIndexFunc_iclearRight_1.T N x := by kernel_rfl
theorem slIndexFunc_iclearRight_1.ok (N : Nat) : Sound Tryz.prog 231 [.d, .fn 201 0] (slIndexFunc_iclearRight_1.S N) := by
  have hs : SigsOK Tryz.prog (slIndexFunc_iclearRight_1.tb N) := sigs_of _ rfl ⟨iclearRight_1.ok N, trivial⟩
  have g0 : Goods Tryz.prog (slIndexFunc_iclearRight_1.tb N) Tryz.f231 [] := goods_nil
  have g1 := goods_cons tabOK mixed rfl hs g0 0 (by kernel_rfl) (slIndexFunc_iclearRight_1.B0_0 N) N rfl (slIndexFunc_iclearRight_1.eq0_0 N)
  exact ok_of tabOK mixed rfl hs Tryz.func231 g1 (by kernel_rfl) rfl (slIndexFunc_iclearRight_1.eq N) (fun _ => rfl)
def slContainsFunc_iclearRight_1.tb (N : Nat) : Tabs := ⟨tt, fun a b c => look3 a b c [(0, 1, 2, CE.sig 231 [.d, .fn 201 0] (slIndexFunc_iclearRight_1.S N))], fun a b => look2 a b []⟩
def slContainsFunc_iclearRight_1.S (N : Nat) : Sig := ⟨slContainsFunc_iclearRight_1.P, slContainsFunc_iclearRight_1.R, false, false, [], false, slContainsFunc_iclearRight_1.F N⟩
theorem slContainsFunc_iclearRight_1.eq (N : Nat) (x : slContainsFunc_iclearRight_1.P.D) : topV (slContainsFunc_iclearRight_1.tb N) 0 Tryz.f200 [.d, .fn 201 0] slContainsFunc_iclearRight_1.P slContainsFunc_iclearRight_1.R false false [] x = slContainsFunc_iclearRight_1.T N x := by kernel_rfl
theorem slContainsFunc_iclearRight_1.ok (N : Nat) : Sound Tryz.prog 200 [.d, .fn 201 0] (slContainsFunc_iclearRight_1.S N) := by
  have hs : SigsOK Tryz.prog (slContainsFunc_iclearRight_1.tb N) := sigs_of _ rfl ⟨slIndexFunc_iclearRight_1.ok N, trivial⟩
  have g0 : Goods Tryz.prog (slContainsFunc_iclearRight_1.tb N) Tryz.f200 [] := goods_nil
  exact ok_of tabOK mixed rfl hs Tryz.func200 g0 (by kernel_rfl) rfl (slContainsFunc_iclearRight_1.eq N) (fun _ => rfl)
def iclearRight.tb (N : Nat) : Tabs := ⟨tt, fun a b c => look3 a b c [(0, 1, 2, CE.sig 34 [.d, .d, .d] (iwithin.S N)), (0, 1, 5, CE.sig 200 [.d, .fn 201 0] (slContainsFunc_iclearRight_1.S N))], fun a b => look2 a b []⟩
def iclearRight.S (N : Nat) : Sig := ⟨iclearRight.P, iclearRight.R, false, false, [], false, iclearRight.F N⟩
theorem iclearRight.eq (N : Nat) (x : iclearRight.P.D) : topV (iclearRight.tb N) 0 Tryz.f148 [.d] iclearRight.P iclearRight.R false false [] x = iclearRight.T N x := by kernel_rfl
theorem iclearRight.ok (N : Nat) : Sound Tryz.prog 148 [.d] (iclearRight.S N) := by
  have hs : SigsOK Tryz.prog (iclearRight.tb N) := sigs_of _ rfl ⟨iwithin.ok N, slContainsFunc_iclearRight_1.ok N, trivial⟩
  have g0 : Goods Tryz.prog (iclearRight.tb N) Tryz.f148 [] := goods_nil
  exact ok_of tabOK mixed rfl hs Tryz.func148 g0 (by kernel_rfl) rfl (iclearRight.eq N) (fun _ => rfl)
def slGrow_SLabel_n.tb (N : Nat) : Tabs := ⟨tt, fun a b c => look3 a b c [], fun a b => look2 a b []⟩
def slGrow_SLabel_n.S (N : Nat) : Sig := ⟨slGrow_SLabel_n.P, slGrow_SLabel_n.R, false, false, [true], false, slGrow_SLabel_n.F N⟩
theorem slGrow_SLabel_n.eq (N : Nat) (x : slGrow_SLabel_n.P.D) : topV (slGrow_SLabel_n.tb N) 0 Tryz.f171 [.nil, .d] slGrow_SLabel_n.P slGrow_SLabel_n.R false false [true] x = slGrow_SLabel_n.T N x := by kernel_rfl
theorem slGrow_SLabel_n.ok (N : Nat) : Sound Tryz.prog 171 [.nil, .d] (slGrow_SLabel_n.S N) := by
  have hs : SigsOK Tryz.prog (slGrow_SLabel_n.tb N) := sigs_of _ rfl trivial
  have g0 : Goods Tryz.prog (slGrow_SLabel_n.tb N) Tryz.f171 [] := goods_nil
  exact ok_of tabOK mixed rfl hs Tryz.func171 g0 (by kernel_rfl) rfl (slGrow_SLabel_n.eq N) (fun _ => rfl)
def slConcat_SLabel.i0_0 : Tmpl := ⟨0, 36, [0, 3, 9, 10, 11], [.d (some 0) T44, .d none (.int .i64), .d (some 1) T44, .d (some 2) (.int .i64), .d none (.int .i64)], []⟩
def slConcat_SLabel.o0_0 : Tmpl := ⟨0, 36, [0, 3], [.d (some 0) T44, .d none (.int .i64)], []⟩
def slConcat_SLabel.r0_0 : Tmpl := ⟨0, 0, [], [.d (some 9999) .unit], []⟩
def slConcat_SLabel.G0_0 (N : Nat) : Frag := ⟨slConcat_SLabel.i0_0, slConcat_SLabel.o0_0, slConcat_SLabel.r0_0, slConcat_SLabel.C0_0, slConcat_SLabel.M0_0, slConcat_SLabel.O0_0, slConcat_SLabel.Q0_0, slConcat_SLabel.L0_0 N⟩
def slConcat_SLabel.i0_4 : Tmpl := ⟨1, 36, [6, 25, 26, 27], [.row 1, .d (some 0) T44, .d (some 1) (.int .i64), .d none (.int .i64)], [.dead, .row none 87 T86]⟩
def slConcat_SLabel.o0_4 : Tmpl := ⟨1, 36, [6], [.row 1], [.dead, .row none 87 T86]⟩
def slConcat_SLabel.r0_4 : Tmpl := ⟨0, 0, [], [.d (some 9999) .unit], []⟩
def slConcat_SLabel.G0_4 (N : Nat) : Frag := ⟨slConcat_SLabel.i0_4, slConcat_SLabel.o0_4, slConcat_SLabel.r0_4, slConcat_SLabel.C0_4, slConcat_SLabel.M0_4, slConcat_SLabel.O0_4, slConcat_SLabel.Q0_4, slConcat_SLabel.L0_4 N⟩
def slConcat_SLabel.tb (N : Nat) : Tabs := ⟨tt, fun a b c => look3 a b c [(0, 9, 1, CE.sig 171 [.nil, .d] (slGrow_SLabel_n.S N))], fun a b => look2 a b [(0, 0, slConcat_SLabel.G0_0 N), (0, 4, slConcat_SLabel.G0_4 N)]⟩
theorem slConcat_SLabel.eq0_0 (N : Nat) (c : slConcat_SLabel.C0_0.D) (m : slConcat_SLabel.M0_0.D) : roundV (slConcat_SLabel.tb N) 0 Tryz.f104 0 slConcat_SLabel.i0_0 slConcat_SLabel.o0_0 slConcat_SLabel.r0_0 slConcat_SLabel.M0_0 slConcat_SLabel.O0_0 slConcat_SLabel.Q0_0 (unpack slConcat_SLabel.C0_0 c) m = (slConcat_SLabel.B0_0 N c m).map (withC (stays (unpack slConcat_SLabel.C0_0 c) [0, 1, 2]) (stays (unpack slConcat_SLabel.C0_0 c) [0]) (stays (unpack slConcat_SLabel.C0_0 c) [])) := by kernel_rfl
theorem slConcat_SLabel.eq0_4 (N : Nat) (c : slConcat_SLabel.C0_4.D) (m : slConcat_SLabel.M0_4.D) : roundV (slConcat_SLabel.tb N) 0 Tryz.f104 2 slConcat_SLabel.i0_4 slConcat_SLabel.o0_4 slConcat_SLabel.r0_4 slConcat_SLabel.M0_4 slConcat_SLabel.O0_4 slConcat_SLabel.Q0_4 (unpack slConcat_SLabel.C0_4 c) m = (slConcat_SLabel.B0_4 N c m).map (withC (stays (unpack slConcat_SLabel.C0_4 c) [0, 1]) (stays (unpack slConcat_SLabel.C0_4 c) []) (stays (unpack slConcat_SLabel.C0_4 c) [])) := by kernel_rfl
def slConcat_SLabel.S (N : Nat) : Sig := ⟨slConcat_SLabel.P, slConcat_SLabel.R, false, false, [true], false, slConcat_SLabel.F N⟩
theorem slConcat_SLabel.eq (N : Nat) (x : slConcat_SLabel.P.D) : topV (slConcat_SLabel.tb N) 0 Tryz.f104 [.d] slConcat_SLabel.P slConcat_SLabel.R false false [true] x = slConcat_SLabel.T N x := by kernel_rfl
theorem slConcat_SLabel.ok (N : Nat) : Sound Tryz.prog 104 [.d] (slConcat_SLabel.S N) := by
  have hs : SigsOK Tryz.prog (slConcat_SLabel.tb N) := sigs_of _ rfl ⟨slGrow_SLabel_n.ok N, trivial⟩
  have g0 : Goods Tryz.prog (slConcat_SLabel.tb N) Tryz.f104 [] := goods_nil
  have g1 := goods_cons tabOK mixed rfl hs g0 0 (by kernel_rfl) (slConcat_SLabel.B0_0 N) N rfl (slConcat_SLabel.eq0_0 N)
  have g2 := goods_cons tabOK mixed rfl hs g1 2 (by kernel_rfl) (slConcat_SLabel.B0_4 N) N rfl (slConcat_SLabel.eq0_4 N)
  exact ok_of tabOK mixed rfl hs Tryz.func104 g2 (by kernel_rfl) rfl (slConcat_SLabel.eq N) (fun _ => rfl)
def slCompact_SLabel_o.i0_4 : Tmpl := ⟨2, 61, [0, 3, 4, 5], [.row 2, .d none (.int .i64), .sub (some 0) (some 1) 2 T86, .d none (.int .i64)], [.dead, .dead, .row none 87 T86]⟩
def slCompact_SLabel_o.o0_4 : Tmpl := ⟨2, 61, [0, 3], [.row 2, .d none (.int .i64)], [.dead, .dead, .row none 87 T86]⟩
def slCompact_SLabel_o.r0_4 : Tmpl := ⟨0, 0, [], [.d (some 9999) .unit], []⟩
def slCompact_SLabel_o.G0_4 (N : Nat) : Frag := ⟨slCompact_SLabel_o.i0_4, slCompact_SLabel_o.o0_4, slCompact_SLabel_o.r0_4, slCompact_SLabel_o.C0_4, slCompact_SLabel_o.M0_4, slCompact_SLabel_o.O0_4, slCompact_SLabel_o.Q0_4, slCompact_SLabel_o.L0_4 N⟩
def slCompact_SLabel_o.i0_0 : Tmpl := ⟨1, 61, [0, 3], [.row 1, .d none (.int .i64)], [.dead, .row (some 0) 87 T86]⟩
def slCompact_SLabel_o.o0_0 : Tmpl := ⟨1, 61, [0], [.row 1], [.dead, .row (some 0) 87 T86]⟩
def slCompact_SLabel_o.r0_0 : Tmpl := ⟨1, 61, [2], [.sub none none 1 T86], [.dead, .row none 87 T86]⟩
def slCompact_SLabel_o.G0_0 (N : Nat) : Frag := ⟨slCompact_SLabel_o.i0_0, slCompact_SLabel_o.o0_0, slCompact_SLabel_o.r0_0, slCompact_SLabel_o.C0_0, slCompact_SLabel_o.M0_0, slCompact_SLabel_o.O0_0, slCompact_SLabel_o.Q0_0, slCompact_SLabel_o.L0_0 N⟩
def slCompact_SLabel_o.tb (N : Nat) : Tabs := ⟨tt, fun a b c => look3 a b c [], fun a b => look2 a b [(0, 4, slCompact_SLabel_o.G0_4 N), (0, 0, slCompact_SLabel_o.G0_0 N)]⟩
theorem slCompact_SLabel_o.eq0_4 (N : Nat) (c : slCompact_SLabel_o.C0_4.D) (m : slCompact_SLabel_o.M0_4.D) : roundV (slCompact_SLabel_o.tb N) 0 Tryz.f107 2 slCompact_SLabel_o.i0_4 slCompact_SLabel_o.o0_4 slCompact_SLabel_o.r0_4 slCompact_SLabel_o.M0_4 slCompact_SLabel_o.O0_4 slCompact_SLabel_o.Q0_4 (unpack slCompact_SLabel_o.C0_4 c) m = (slCompact_SLabel_o.B0_4 N c m).map (withC (stays (unpack slCompact_SLabel_o.C0_4 c) [0, 1]) (stays (unpack slCompact_SLabel_o.C0_4 c) []) (stays (unpack slCompact_SLabel_o.C0_4 c) [])) := by kernel_rfl
theorem slCompact_SLabel_o.eq0_0 (N : Nat) (c : slCompact_SLabel_o.C0_0.D) (m : slCompact_SLabel_o.M0_0.D) : roundV (slCompact_SLabel_o.tb N) 0 Tryz.f107 0 slCompact_SLabel_o.i0_0 slCompact_SLabel_o.o0_0 slCompact_SLabel_o.r0_0 slCompact_SLabel_o.M0_0 slCompact_SLabel_o.O0_0 slCompact_SLabel_o.Q0_0 (unpack slCompact_SLabel_o.C0_0 c) m = (slCompact_SLabel_o.B0_0 N c m).map (withC (stays (unpack slCompact_SLabel_o.C0_0 c) [0]) (stays (unpack slCompact_SLabel_o.C0_0 c) [0]) (stays (unpack slCompact_SLabel_o.C0_0 c) [])) := by kernel_rfl
def slCompact_SLabel_o.S (N : Nat) : Sig := ⟨slCompact_SLabel_o.P, slCompact_SLabel_o.R, false, false, [], true, slCompact_SLabel_o.F N⟩
theorem slCompact_SLabel_o.eq (N : Nat) (x : slCompact_SLabel_o.P.D) : topV (slCompact_SLabel_o.tb N) 0 Tryz.f107 [.own] slCompact_SLabel_o.P slCompact_SLabel_o.R false false [] x = slCompact_SLabel_o.T N x := by kernel_rfl
theorem slCompact_SLabel_o.ok (N : Nat) : Sound Tryz.prog 107 [.own] (slCompact_SLabel_o.S N) := by
  have hs : SigsOK Tryz.prog (slCompact_SLabel_o.tb N) := sigs_of _ rfl trivial
  have g0 : Goods Tryz.prog (slCompact_SLabel_o.tb N) Tryz.f107 [] := goods_nil
  have g1 := goods_cons tabOK mixed rfl hs g0 2 (by kernel_rfl) (slCompact_SLabel_o.B0_4 N) N rfl (slCompact_SLabel_o.eq0_4 N)
  have g2 := goods_cons tabOK mixed rfl hs g1 0 (by kernel_rfl) (slCompact_SLabel_o.B0_0 N) N rfl (slCompact_SLabel_o.eq0_0 N)
  exact ok_of tabOK mixed rfl hs Tryz.func107 g2 (by kernel_rfl) rfl (slCompact_SLabel_o.eq N) (fun _ => rfl)
def iConfig_labels.tb (N : Nat) : Tabs := ⟨tt, fun a b c => look3 a b c [(0, 1, 2, CE.sig 104 [.d] (slConcat_SLabel.S N)), (0, 2, 1, CE.sig 105 [.io, .fn 106 0] (slSortFunc_icompareLabels_w.S N)), (0, 3, 1, CE.sig 107 [.own] (slCompact_SLabel_o.S N))], fun a b => look2 a b []⟩
def iConfig_labels.S (N : Nat) : Sig := ⟨iConfig_labels.P, iConfig_labels.R, false, false, [], true, iConfig_labels.F N⟩
theorem iConfig_labels.eq (N : Nat) (x : iConfig_labels.P.D) : topV (iConfig_labels.tb N) 0 Tryz.f51 [.d] iConfig_labels.P iConfig_labels.R false false [] x = iConfig_labels.T N x := by kernel_rfl
theorem iConfig_labels.ok (N : Nat) : Sound Tryz.prog 51 [.d] (iConfig_labels.S N) := by
  have hs : SigsOK Tryz.prog (iConfig_labels.tb N) := sigs_of _ rfl ⟨slConcat_SLabel.ok N, slSortFunc_icompareLabels_w.ok N, slCompact_SLabel_o.ok N, trivial⟩
  have g0 : Goods Tryz.prog (iConfig_labels.tb N) Tryz.f51 [] := goods_nil
  exact ok_of tabOK mixed rfl hs Tryz.func51 g0 (by kernel_rfl) rfl (iConfig_labels.eq N) (fun _ => rfl)
def iConfig_pairsOf_1_p.tb (N : Nat) : Tabs := ⟨tt, fun a b c => look3 a b c [], fun a b => look2 a b []⟩
def iConfig_pairsOf_1_p.S (N : Nat) : Sig := ⟨iConfig_pairsOf_1_p.P, iConfig_pairsOf_1_p.R, false, false, [], false, iConfig_pairsOf_1_p.F N⟩
theorem iConfig_pairsOf_1_p.eq (N : Nat) (x : iConfig_pairsOf_1_p.P.D) : topV (iConfig_pairsOf_1_p.tb N) 0 Tryz.f204 [.d, .ip] iConfig_pairsOf_1_p.P iConfig_pairsOf_1_p.R false false [] x = iConfig_pairsOf_1_p.T N x := by kernel_rfl
theorem iConfig_pairsOf_1_p.ok (N : Nat) : Sound Tryz.prog 204 [.d, .ip] (iConfig_pairsOf_1_p.S N) := by
  have hs : SigsOK Tryz.prog (iConfig_pairsOf_1_p.tb N) := sigs_of _ rfl trivial
  have g0 : Goods Tryz.prog (iConfig_pairsOf_1_p.tb N) Tryz.f204 [] := goods_nil
  exact ok_of tabOK mixed rfl hs Tryz.func204 g0 (by kernel_rfl) rfl (iConfig_pairsOf_1_p.eq N) (fun _ => rfl)
def slIndexFunc_iConfig_pairsOf_1.i0_0 : Tmpl := ⟨0, 19, [0, 1, 7, 8], [.d (some 0) T45, .fn 204 [.ip (some 1) T134], .d (some 2) (.int .i64), .d none (.int .i64)], []⟩
def slIndexFunc_iConfig_pairsOf_1.o0_0 : Tmpl := ⟨0, 19, [], [], []⟩
def slIndexFunc_iConfig_pairsOf_1.r0_0 : Tmpl := ⟨0, 19, [4], [.d none (.int .i64)], []⟩
def slIndexFunc_iConfig_pairsOf_1.G0_0 (N : Nat) : Frag := ⟨slIndexFunc_iConfig_pairsOf_1.i0_0, slIndexFunc_iConfig_pairsOf_1.o0_0, slIndexFunc_iConfig_pairsOf_1.r0_0, slIndexFunc_iConfig_pairsOf_1.C0_0, slIndexFunc_iConfig_pairsOf_1.M0_0, slIndexFunc_iConfig_pairsOf_1.O0_0, slIndexFunc_iConfig_pairsOf_1.Q0_0, slIndexFunc_iConfig_pairsOf_1.L0_0 N⟩
def slIndexFunc_iConfig_pairsOf_1.tb (N : Nat) : Tabs := ⟨tt, fun a b c => look3 a b c [(0, 4, 5, CE.sig 204 [.d, .ip] (iConfig_pairsOf_1_p.S N))], fun a b => look2 a b [(0, 0, slIndexFunc_iConfig_pairsOf_1.G0_0 N)]⟩
theorem slIndexFunc_iConfig_pairsOf_1.eq0_0 (N : Nat) (c : slIndexFunc_iConfig_pairsOf_1.C0_0.D) (m : slIndexFunc_iConfig_pairsOf_1.M0_0.D) : roundV (slIndexFunc_iConfig_pairsOf_1.tb N) 0 Tryz.f233 0 slIndexFunc_iConfig_pairsOf_1.i0_0 slIndexFunc_iConfig_pairsOf_1.o0_0 slIndexFunc_iConfig_pairsOf_1.r0_0 slIndexFunc_iConfig_pairsOf_1.M0_0 slIndexFunc_iConfig_pairsOf_1.O0_0 slIndexFunc_iConfig_pairsOf_1.Q0_0 (unpack slIndexFunc_iConfig_pairsOf_1.C0_0 c) m = (slIndexFunc_iConfig_pairsOf_1.B0_0 N c m).map (withC (stays (unpack slIndexFunc_iConfig_pairsOf_1.C0_0 c) [0, 1, 2]) (stays (unpack slIndexFunc_iConfig_pairsOf_1.C0_0 c) []) (stays (unpack slIndexFunc_iConfig_pairsOf_1.C0_0 c) [])) := by kernel_rfl
def slIndexFunc_iConfig_pairsOf_1.S (N : Nat) : Sig := ⟨slIndexFunc_iConfig_pairsOf_1.P, slIndexFunc_iConfig_pairsOf_1.R, false, false, [], false, slIndexFunc_iConfig_pairsOf_1.F N⟩
theorem slIndexFunc_iConfig_pairsOf_1.eq (N : Nat) (x : slIndexFunc_iConfig_pairsOf_1.P.D) : topV (slIndexFunc_iConfig_pairsOf_1.tb N) 0 Tryz.f233 [.d, .fn 204 1] slIndexFunc_iConfig_pairsOf_1.P slIndexFunc_iConfig_pairsOf_1.R false false [] x = slIndexFunc_iConfig_pairsOf_1.T N x := by kernel_rfl
theorem slIndexFunc_iConfig_pairsOf_1.ok (N : Nat) : Sound Tryz.prog 233 [.d, .fn 204 1] (slIndexFunc_iConfig_pairsOf_1.S N) := by
  have hs : SigsOK Tryz.prog (slIndexFunc_iConfig_pairsOf_1.tb N) := sigs_of _ rfl ⟨iConfig_pairsOf_1_p.ok N, trivial⟩
  have g0 : Goods Tryz.prog (slIndexFunc_iConfig_pairsOf_1.tb N) Tryz.f233 [] := goods_nil
  have g1 := goods_cons tabOK mixed rfl hs g0 0 (by kernel_rfl) (slIndexFunc_iConfig_pairsOf_1.B0_0 N) N rfl (slIndexFunc_iConfig_pairsOf_1.eq0_0 N)
  exact ok_of tabOK mixed rfl hs Tryz.func233 g1 (by kernel_rfl) rfl (slIndexFunc_iConfig_pairsOf_1.eq N) (fun _ => rfl)
def slContainsFunc_iConfig_pairsOf_1.tb (N : Nat) : Tabs := ⟨tt, fun a b c => look3 a b c [(0, 1, 2, CE.sig 233 [.d, .fn 204 1] (slIndexFunc_iConfig_pairsOf_1.S N))], fun a b => look2 a b []⟩
def slContainsFunc_iConfig_pairsOf_1.S (N : Nat) : Sig := ⟨slContainsFunc_iConfig_pairsOf_1.P, slContainsFunc_iConfig_pairsOf_1.R, false, false, [], false, slContainsFunc_iConfig_pairsOf_1.F N⟩
theorem slContainsFunc_iConfig_pairsOf_1.eq (N : Nat) (x : slContainsFunc_iConfig_pairsOf_1.P.D) : topV (slContainsFunc_iConfig_pairsOf_1.tb N) 0 Tryz.f203 [.d, .fn 204 1] slContainsFunc_iConfig_pairsOf_1.P slContainsFunc_iConfig_pairsOf_1.R false false [] x = slContainsFunc_iConfig_pairsOf_1.T N x := by kernel_rfl
theorem slContainsFunc_iConfig_pairsOf_1.ok (N : Nat) : Sound Tryz.prog 203 [.d, .fn 204 1] (slContainsFunc_iConfig_pairsOf_1.S N) := by
  have hs : SigsOK Tryz.prog (slContainsFunc_iConfig_pairsOf_1.tb N) := sigs_of _ rfl ⟨slIndexFunc_iConfig_pairsOf_1.ok N, trivial⟩
  have g0 : Goods Tryz.prog (slContainsFunc_iConfig_pairsOf_1.tb N) Tryz.f203 [] := goods_nil
  exact ok_of tabOK mixed rfl hs Tryz.func203 g0 (by kernel_rfl) rfl (slContainsFunc_iConfig_pairsOf_1.eq N) (fun _ => rfl)
def slIndex_SLabel.i0_0 : Tmpl := ⟨1, 19, [0, 3, 7, 8], [.d (some 0) T82, .cp 0 0, .d (some 1) (.int .i64), .d none (.int .i64)], [.cells [.d (some 2) (.int .i64), .d (some 3) (.int .i64)]]⟩
def slIndex_SLabel.o0_0 : Tmpl := ⟨1, 19, [], [], [.dead]⟩
def slIndex_SLabel.r0_0 : Tmpl := ⟨1, 19, [4], [.d none (.int .i64)], [.dead]⟩
def slIndex_SLabel.G0_0 (N : Nat) : Frag := ⟨slIndex_SLabel.i0_0, slIndex_SLabel.o0_0, slIndex_SLabel.r0_0, slIndex_SLabel.C0_0, slIndex_SLabel.M0_0, slIndex_SLabel.O0_0, slIndex_SLabel.Q0_0, slIndex_SLabel.L0_0 N⟩
def slIndex_SLabel.tb (N : Nat) : Tabs := ⟨tt, fun a b c => look3 a b c [], fun a b => look2 a b [(0, 0, slIndex_SLabel.G0_0 N)]⟩
theorem slIndex_SLabel.eq0_0 (N : Nat) (c : slIndex_SLabel.C0_0.D) (m : slIndex_SLabel.M0_0.D) : roundV (slIndex_SLabel.tb N) 0 Tryz.f170 0 slIndex_SLabel.i0_0 slIndex_SLabel.o0_0 slIndex_SLabel.r0_0 slIndex_SLabel.M0_0 slIndex_SLabel.O0_0 slIndex_SLabel.Q0_0 (unpack slIndex_SLabel.C0_0 c) m = (slIndex_SLabel.B0_0 N c m).map (withC (stays (unpack slIndex_SLabel.C0_0 c) [0, 1, 2, 3]) (stays (unpack slIndex_SLabel.C0_0 c) []) (stays (unpack slIndex_SLabel.C0_0 c) [])) := by kernel_rfl
def slIndex_SLabel.S (N : Nat) : Sig := ⟨slIndex_SLabel.P, slIndex_SLabel.R, false, false, [], false, slIndex_SLabel.F N⟩
theorem slIndex_SLabel.eq (N : Nat) (x : slIndex_SLabel.P.D) : topV (slIndex_SLabel.tb N) 0 Tryz.f170 [.d, .d] slIndex_SLabel.P slIndex_SLabel.R false false [] x = slIndex_SLabel.T N x := by kernel_rfl
theorem slIndex_SLabel.ok (N : Nat) : Sound Tryz.prog 170 [.d, .d] (slIndex_SLabel.S N) := by
  have hs : SigsOK Tryz.prog (slIndex_SLabel.tb N) := sigs_of _ rfl trivial
  have g0 : Goods Tryz.prog (slIndex_SLabel.tb N) Tryz.f170 [] := goods_nil
  have g1 := goods_cons tabOK mixed rfl hs g0 0 (by kernel_rfl) (slIndex_SLabel.B0_0 N) N rfl (slIndex_SLabel.eq0_0 N)
  exact ok_of tabOK mixed rfl hs Tryz.func170 g1 (by kernel_rfl) rfl (slIndex_SLabel.eq N) (fun _ => rfl)
def slContains_SLabel.tb (N : Nat) : Tabs := ⟨tt, fun a b c => look3 a b c [(0, 1, 2, CE.sig 170 [.d, .d] (slIndex_SLabel.S N))], fun a b => look2 a b []⟩
def slContains_SLabel.S (N : Nat) : Sig := ⟨slContains_SLabel.P, slContains_SLabel.R, false, false, [], false, slContains_SLabel.F N⟩
theorem slContains_SLabel.eq (N : Nat) (x : slContains_SLabel.P.D) : topV (slContains_SLabel.tb N) 0 Tryz.f99 [.d, .d] slContains_SLabel.P slContains_SLabel.R false false [] x = slContains_SLabel.T N x := by kernel_rfl
theorem slContains_SLabel.ok (N : Nat) : Sound Tryz.prog 99 [.d, .d] (slContains_SLabel.S N) := by
  have hs : SigsOK Tryz.prog (slContains_SLabel.tb N) := sigs_of _ rfl ⟨slIndex_SLabel.ok N, trivial⟩
  have g0 : Goods Tryz.prog (slContains_SLabel.tb N) Tryz.f99 [] := goods_nil
  exact ok_of tabOK mixed rfl hs Tryz.func99 g0 (by kernel_rfl) rfl (slContains_SLabel.eq N) (fun _ => rfl)
def iConfig_pairsOf.i0_0 : Tmpl := ⟨1, 55, [1, 2, 9, 10, 11], [.d (some 0) T82, .cp 0 0, .d (some 1) T45, .d (some 2) (.int .i64), .d none (.int .i64)], [.cells [.d (some 3) T44, .d (some 4) T45, .d (some 5) T46, .d (some 6) (.int .i64)]]⟩
def iConfig_pairsOf.o0_0 : Tmpl := ⟨1, 55, [2], [.cp 0 0], [.cells [.d (some 3) T44, .d (some 4) T45, .d (some 5) T46, .d (some 6) (.int .i64)]]⟩
def iConfig_pairsOf.r0_0 : Tmpl := ⟨1, 55, [4], [.d none .bool], [.dead]⟩
def iConfig_pairsOf.G0_0 (N : Nat) : Frag := ⟨iConfig_pairsOf.i0_0, iConfig_pairsOf.o0_0, iConfig_pairsOf.r0_0, iConfig_pairsOf.C0_0, iConfig_pairsOf.M0_0, iConfig_pairsOf.O0_0, iConfig_pairsOf.Q0_0, iConfig_pairsOf.L0_0 N⟩
def iConfig_pairsOf.tb (N : Nat) : Tabs := ⟨tt, fun a b c => look3 a b c [(0, 4, 5, CE.sig 203 [.d, .fn 204 1] (slContainsFunc_iConfig_pairsOf_1.S N)), (0, 5, 5, CE.sig 99 [.d, .d] (slContains_SLabel.S N)), (0, 5, 12, CE.sig 99 [.d, .d] (slContains_SLabel.S N)), (0, 5, 20, CE.sig 205 [.d, .d] (ibelow.S N)), (0, 5, 25, CE.sig 34 [.d, .d, .d] (iwithin.S N))], fun a b => look2 a b [(0, 0, iConfig_pairsOf.G0_0 N)]⟩
theorem iConfig_pairsOf.eq0_0 (N : Nat) (c : iConfig_pairsOf.C0_0.D) (m : iConfig_pairsOf.M0_0.D) : roundV (iConfig_pairsOf.tb N) 0 Tryz.f149 0 iConfig_pairsOf.i0_0 iConfig_pairsOf.o0_0 iConfig_pairsOf.r0_0 iConfig_pairsOf.M0_0 iConfig_pairsOf.O0_0 iConfig_pairsOf.Q0_0 (unpack iConfig_pairsOf.C0_0 c) m = (iConfig_pairsOf.B0_0 N c m).map (withC (stays (unpack iConfig_pairsOf.C0_0 c) [0, 1, 2, 3, 4, 5, 6]) (stays (unpack iConfig_pairsOf.C0_0 c) [3, 4, 5, 6]) (stays (unpack iConfig_pairsOf.C0_0 c) [])) := by kernel_rfl
def iConfig_pairsOf.S (N : Nat) : Sig := ⟨iConfig_pairsOf.P, iConfig_pairsOf.R, false, false, [], false, iConfig_pairsOf.F N⟩
theorem iConfig_pairsOf.eq (N : Nat) (x : iConfig_pairsOf.P.D) : topV (iConfig_pairsOf.tb N) 0 Tryz.f149 [.d, .d] iConfig_pairsOf.P iConfig_pairsOf.R false false [] x = iConfig_pairsOf.T N x := by kernel_rfl
theorem iConfig_pairsOf.ok (N : Nat) : Sound Tryz.prog 149 [.d, .d] (iConfig_pairsOf.S N) := by
  have hs : SigsOK Tryz.prog (iConfig_pairsOf.tb N) := sigs_of _ rfl ⟨slContainsFunc_iConfig_pairsOf_1.ok N, slContains_SLabel.ok N, slContains_SLabel.ok N, ibelow.ok N, iwithin.ok N, trivial⟩
  have g0 : Goods Tryz.prog (iConfig_pairsOf.tb N) Tryz.f149 [] := goods_nil
  have g1 := goods_cons tabOK mixed rfl hs g0 0 (by kernel_rfl) (iConfig_pairsOf.B0_0 N) N rfl (iConfig_pairsOf.eq0_0 N)
  exact ok_of tabOK mixed rfl hs Tryz.func149 g1 (by kernel_rfl) rfl (iConfig_pairsOf.eq N) (fun _ => rfl)
def iConfig_quotasOf.i0_0 : Tmpl := ⟨1, 44, [1, 2, 8, 9, 10], [.d (some 0) T82, .cp 0 0, .d (some 1) T46, .d (some 2) (.int .i64), .d none (.int .i64)], [.cells [.d (some 3) T44, .d (some 4) T45, .d (some 5) T46, .d (some 6) (.int .i64)]]⟩
def iConfig_quotasOf.o0_0 : Tmpl := ⟨1, 44, [], [], [.dead]⟩
def iConfig_quotasOf.r0_0 : Tmpl := ⟨1, 44, [4], [.d none .bool], [.dead]⟩
def iConfig_quotasOf.G0_0 (N : Nat) : Frag := ⟨iConfig_quotasOf.i0_0, iConfig_quotasOf.o0_0, iConfig_quotasOf.r0_0, iConfig_quotasOf.C0_0, iConfig_quotasOf.M0_0, iConfig_quotasOf.O0_0, iConfig_quotasOf.Q0_0, iConfig_quotasOf.L0_0 N⟩
def iConfig_quotasOf.tb (N : Nat) : Tabs := ⟨tt, fun a b c => look3 a b c [(0, 4, 3, CE.sig 99 [.d, .d] (slContains_SLabel.S N)), (0, 4, 8, CE.sig 34 [.d, .d, .d] (iwithin.S N)), (0, 4, 24, CE.sig 106 [.d, .d] (icompareLabels.S N))], fun a b => look2 a b [(0, 0, iConfig_quotasOf.G0_0 N)]⟩
theorem iConfig_quotasOf.eq0_0 (N : Nat) (c : iConfig_quotasOf.C0_0.D) (m : iConfig_quotasOf.M0_0.D) : roundV (iConfig_quotasOf.tb N) 0 Tryz.f150 0 iConfig_quotasOf.i0_0 iConfig_quotasOf.o0_0 iConfig_quotasOf.r0_0 iConfig_quotasOf.M0_0 iConfig_quotasOf.O0_0 iConfig_quotasOf.Q0_0 (unpack iConfig_quotasOf.C0_0 c) m = (iConfig_quotasOf.B0_0 N c m).map (withC (stays (unpack iConfig_quotasOf.C0_0 c) [0, 1, 2, 3, 4, 5, 6]) (stays (unpack iConfig_quotasOf.C0_0 c) []) (stays (unpack iConfig_quotasOf.C0_0 c) [])) := by kernel_rfl
def iConfig_quotasOf.S (N : Nat) : Sig := ⟨iConfig_quotasOf.P, iConfig_quotasOf.R, false, false, [], false, iConfig_quotasOf.F N⟩
theorem iConfig_quotasOf.eq (N : Nat) (x : iConfig_quotasOf.P.D) : topV (iConfig_quotasOf.tb N) 0 Tryz.f150 [.d, .d] iConfig_quotasOf.P iConfig_quotasOf.R false false [] x = iConfig_quotasOf.T N x := by kernel_rfl
theorem iConfig_quotasOf.ok (N : Nat) : Sound Tryz.prog 150 [.d, .d] (iConfig_quotasOf.S N) := by
  have hs : SigsOK Tryz.prog (iConfig_quotasOf.tb N) := sigs_of _ rfl ⟨slContains_SLabel.ok N, iwithin.ok N, icompareLabels.ok N, trivial⟩
  have g0 : Goods Tryz.prog (iConfig_quotasOf.tb N) Tryz.f150 [] := goods_nil
  have g1 := goods_cons tabOK mixed rfl hs g0 0 (by kernel_rfl) (iConfig_quotasOf.B0_0 N) N rfl (iConfig_quotasOf.eq0_0 N)
  exact ok_of tabOK mixed rfl hs Tryz.func150 g1 (by kernel_rfl) rfl (iConfig_quotasOf.eq N) (fun _ => rfl)
def iConfigRight.tb (N : Nat) : Tabs := ⟨tt, fun a b c => look3 a b c [(0, 1, 2, CE.sig 148 [.d] (iclearRight.S N)), (0, 1, 7, CE.sig 34 [.d, .d, .d] (iwithin.S N)), (0, 3, 1, CE.sig 51 [.d] (iConfig_labels.S N)), (0, 4, 6, CE.sig 149 [.d, .d] (iConfig_pairsOf.S N)), (0, 4, 11, CE.sig 150 [.d, .d] (iConfig_quotasOf.S N))], fun a b => look2 a b []⟩
def iConfigRight.S (N : Nat) : Sig := ⟨iConfigRight.P, iConfigRight.R, false, false, [], false, iConfigRight.F N⟩
theorem iConfigRight.eq (N : Nat) (x : iConfigRight.P.D) : topV (iConfigRight.tb N) 0 Tryz.f87 [.d] iConfigRight.P iConfigRight.R false false [] x = iConfigRight.T N x := by kernel_rfl
theorem iConfigRight.ok (N : Nat) : Sound Tryz.prog 87 [.d] (iConfigRight.S N) := by
  have hs : SigsOK Tryz.prog (iConfigRight.tb N) := sigs_of _ rfl ⟨iclearRight.ok N, iwithin.ok N, iConfig_labels.ok N, iConfig_pairsOf.ok N, iConfig_quotasOf.ok N, trivial⟩
  have g0 : Goods Tryz.prog (iConfigRight.tb N) Tryz.f87 [] := goods_nil
  exact ok_of tabOK mixed rfl hs Tryz.func87 g0 (by kernel_rfl) rfl (iConfigRight.eq N) (fun _ => rfl)
def iisNodeState.tb (N : Nat) : Tabs := ⟨tt, fun a b c => look3 a b c [(0, 1, 1, CE.sig 34 [.d, .d, .d] (iwithin.S N))], fun a b => look2 a b []⟩
def iisNodeState.S (N : Nat) : Sig := ⟨iisNodeState.P, iisNodeState.R, false, false, [], false, iisNodeState.F N⟩
theorem iisNodeState.eq (N : Nat) (x : iisNodeState.P.D) : topV (iisNodeState.tb N) 0 Tryz.f153 [.d] iisNodeState.P iisNodeState.R false false [] x = iisNodeState.T N x := by kernel_rfl
theorem iisNodeState.ok (N : Nat) : Sound Tryz.prog 153 [.d] (iisNodeState.S N) := by
  have hs : SigsOK Tryz.prog (iisNodeState.tb N) := sigs_of _ rfl ⟨iwithin.ok N, trivial⟩
  have g0 : Goods Tryz.prog (iisNodeState.tb N) Tryz.f153 [] := goods_nil
  exact ok_of tabOK mixed rfl hs Tryz.func153 g0 (by kernel_rfl) rfl (iisNodeState.eq N) (fun _ => rfl)
def iisTime.tb (N : Nat) : Tabs := ⟨tt, fun a b c => look3 a b c [(0, 1, 1, CE.sig 34 [.d, .d, .d] (iwithin.S N))], fun a b => look2 a b []⟩
def iisTime.S (N : Nat) : Sig := ⟨iisTime.P, iisTime.R, false, false, [], false, iisTime.F N⟩
theorem iisTime.eq (N : Nat) (x : iisTime.P.D) : topV (iisTime.tb N) 0 Tryz.f24 [.d] iisTime.P iisTime.R false false [] x = iisTime.T N x := by kernel_rfl
theorem iisTime.ok (N : Nat) : Sound Tryz.prog 24 [.d] (iisTime.S N) := by
  have hs : SigsOK Tryz.prog (iisTime.tb N) := sigs_of _ rfl ⟨iwithin.ok N, trivial⟩
  have g0 : Goods Tryz.prog (iisTime.tb N) Tryz.f24 [] := goods_nil
  exact ok_of tabOK mixed rfl hs Tryz.func24 g0 (by kernel_rfl) rfl (iisTime.eq N) (fun _ => rfl)
def ispanRight.tb (N : Nat) : Tabs := ⟨tt, fun a b c => look3 a b c [(0, 1, 2, CE.sig 24 [.d] (iisTime.S N)), (0, 1, 6, CE.sig 24 [.d] (iisTime.S N))], fun a b => look2 a b []⟩
def ispanRight.S (N : Nat) : Sig := ⟨ispanRight.P, ispanRight.R, false, false, [], false, ispanRight.F N⟩
theorem ispanRight.eq (N : Nat) (x : ispanRight.P.D) : topV (ispanRight.tb N) 0 Tryz.f207 [.d] ispanRight.P ispanRight.R false false [] x = ispanRight.T N x := by kernel_rfl
theorem ispanRight.ok (N : Nat) : Sound Tryz.prog 207 [.d] (ispanRight.S N) := by
  have hs : SigsOK Tryz.prog (ispanRight.tb N) := sigs_of _ rfl ⟨iisTime.ok N, iisTime.ok N, trivial⟩
  have g0 : Goods Tryz.prog (ispanRight.tb N) Tryz.f207 [] := goods_nil
  exact ok_of tabOK mixed rfl hs Tryz.func207 g0 (by kernel_rfl) rfl (ispanRight.eq N) (fun _ => rfl)
def iSpansRight.i0_0 : Tmpl := ⟨0, 34, [0, 5, 6, 7], [.d (some 0) T122, .d (some 1) T122, .d (some 2) (.int .i64), .d none (.int .i64)], []⟩
def iSpansRight.o0_0 : Tmpl := ⟨0, 34, [0], [.d (some 0) T122], []⟩
def iSpansRight.r0_0 : Tmpl := ⟨0, 34, [2], [.d none .bool], []⟩
def iSpansRight.G0_0 (N : Nat) : Frag := ⟨iSpansRight.i0_0, iSpansRight.o0_0, iSpansRight.r0_0, iSpansRight.C0_0, iSpansRight.M0_0, iSpansRight.O0_0, iSpansRight.Q0_0, iSpansRight.L0_0 N⟩
def iSpansRight.tb (N : Nat) : Tabs := ⟨tt, fun a b c => look3 a b c [(0, 4, 1, CE.sig 207 [.d] (ispanRight.S N))], fun a b => look2 a b [(0, 0, iSpansRight.G0_0 N)]⟩
theorem iSpansRight.eq0_0 (N : Nat) (c : iSpansRight.C0_0.D) (m : iSpansRight.M0_0.D) : roundV (iSpansRight.tb N) 0 Tryz.f154 0 iSpansRight.i0_0 iSpansRight.o0_0 iSpansRight.r0_0 iSpansRight.M0_0 iSpansRight.O0_0 iSpansRight.Q0_0 (unpack iSpansRight.C0_0 c) m = (iSpansRight.B0_0 N c m).map (withC (stays (unpack iSpansRight.C0_0 c) [0, 1, 2]) (stays (unpack iSpansRight.C0_0 c) [0]) (stays (unpack iSpansRight.C0_0 c) [])) := by kernel_rfl
def iSpansRight.S (N : Nat) : Sig := ⟨iSpansRight.P, iSpansRight.R, false, false, [], false, iSpansRight.F N⟩
theorem iSpansRight.eq (N : Nat) (x : iSpansRight.P.D) : topV (iSpansRight.tb N) 0 Tryz.f154 [.d] iSpansRight.P iSpansRight.R false false [] x = iSpansRight.T N x := by kernel_rfl
theorem iSpansRight.ok (N : Nat) : Sound Tryz.prog 154 [.d] (iSpansRight.S N) := by
  have hs : SigsOK Tryz.prog (iSpansRight.tb N) := sigs_of _ rfl ⟨ispanRight.ok N, trivial⟩
  have g0 : Goods Tryz.prog (iSpansRight.tb N) Tryz.f154 [] := goods_nil
  have g1 := goods_cons tabOK mixed rfl hs g0 0 (by kernel_rfl) (iSpansRight.B0_0 N) N rfl (iSpansRight.eq0_0 N)
  exact ok_of tabOK mixed rfl hs Tryz.func154 g1 (by kernel_rfl) rfl (iSpansRight.eq N) (fun _ => rfl)
def iNodesRight_1.tb (N : Nat) : Tabs := ⟨tt, fun a b c => look3 a b c [(0, 1, 2, CE.sig 153 [.d] (iisNodeState.S N)), (0, 1, 13, CE.sig 154 [.d] (iSpansRight.S N))], fun a b => look2 a b []⟩
def iNodesRight_1.S (N : Nat) : Sig := ⟨iNodesRight_1.P, iNodesRight_1.R, false, false, [], false, iNodesRight_1.F N⟩
theorem iNodesRight_1.eq (N : Nat) (x : iNodesRight_1.P.D) : topV (iNodesRight_1.tb N) 0 Tryz.f152 [.d] iNodesRight_1.P iNodesRight_1.R false false [] x = iNodesRight_1.T N x := by kernel_rfl
theorem iNodesRight_1.ok (N : Nat) : Sound Tryz.prog 152 [.d] (iNodesRight_1.S N) := by
  have hs : SigsOK Tryz.prog (iNodesRight_1.tb N) := sigs_of _ rfl ⟨iisNodeState.ok N, iSpansRight.ok N, trivial⟩
  have g0 : Goods Tryz.prog (iNodesRight_1.tb N) Tryz.f152 [] := goods_nil
  exact ok_of tabOK mixed rfl hs Tryz.func152 g0 (by kernel_rfl) rfl (iNodesRight_1.eq N) (fun _ => rfl)
def slIndexFunc_iNodesRight_1.i0_0 : Tmpl := ⟨0, 19, [0, 1, 7, 8], [.d (some 0) T49, .fn 152 [], .d (some 1) (.int .i64), .d none (.int .i64)], []⟩
def slIndexFunc_iNodesRight_1.o0_0 : Tmpl := ⟨0, 19, [], [], []⟩
def slIndexFunc_iNodesRight_1.r0_0 : Tmpl := ⟨0, 19, [4], [.d none (.int .i64)], []⟩
def slIndexFunc_iNodesRight_1.G0_0 (N : Nat) : Frag := ⟨slIndexFunc_iNodesRight_1.i0_0, slIndexFunc_iNodesRight_1.o0_0, slIndexFunc_iNodesRight_1.r0_0, slIndexFunc_iNodesRight_1.C0_0, slIndexFunc_iNodesRight_1.M0_0, slIndexFunc_iNodesRight_1.O0_0, slIndexFunc_iNodesRight_1.Q0_0, slIndexFunc_iNodesRight_1.L0_0 N⟩
def slIndexFunc_iNodesRight_1.tb (N : Nat) : Tabs := ⟨tt, fun a b c => look3 a b c [(0, 4, 5, CE.sig 152 [.d] (iNodesRight_1.S N))], fun a b => look2 a b [(0, 0, slIndexFunc_iNodesRight_1.G0_0 N)]⟩
theorem slIndexFunc_iNodesRight_1.eq0_0 (N : Nat) (c : slIndexFunc_iNodesRight_1.C0_0.D) (m : slIndexFunc_iNodesRight_1.M0_0.D) : roundV (slIndexFunc_iNodesRight_1.tb N) 0 Tryz.f206 0 slIndexFunc_iNodesRight_1.i0_0 slIndexFunc_iNodesRight_1.o0_0 slIndexFunc_iNodesRight_1.r0_0 slIndexFunc_iNodesRight_1.M0_0 slIndexFunc_iNodesRight_1.O0_0 slIndexFunc_iNodesRight_1.Q0_0 (unpack slIndexFunc_iNodesRight_1.C0_0 c) m = (slIndexFunc_iNodesRight_1.B0_0 N c m).map (withC (stays (unpack slIndexFunc_iNodesRight_1.C0_0 c) [0, 1]) (stays (unpack slIndexFunc_iNodesRight_1.C0_0 c) []) (stays (unpack slIndexFunc_iNodesRight_1.C0_0 c) [])) := by kernel_rfl
def slIndexFunc_iNodesRight_1.S (N : Nat) : Sig := ⟨slIndexFunc_iNodesRight_1.P, slIndexFunc_iNodesRight_1.R, false, false, [], false, slIndexFunc_iNodesRight_1.F N⟩
theorem slIndexFunc_iNodesRight_1.eq (N : Nat) (x : slIndexFunc_iNodesRight_1.P.D) : topV (slIndexFunc_iNodesRight_1.tb N) 0 Tryz.f206 [.d, .fn 152 0] slIndexFunc_iNodesRight_1.P slIndexFunc_iNodesRight_1.R false false [] x = slIndexFunc_iNodesRight_1.T N x := by kernel_rfl
theorem slIndexFunc_iNodesRight_1.ok (N : Nat) : Sound Tryz.prog 206 [.d, .fn 152 0] (slIndexFunc_iNodesRight_1.S N) := by
  have hs : SigsOK Tryz.prog (slIndexFunc_iNodesRight_1.tb N) := sigs_of _ rfl ⟨iNodesRight_1.ok N, trivial⟩
  have g0 : Goods Tryz.prog (slIndexFunc_iNodesRight_1.tb N) Tryz.f206 [] := goods_nil
  have g1 := goods_cons tabOK mixed rfl hs g0 0 (by kernel_rfl) (slIndexFunc_iNodesRight_1.B0_0 N) N rfl (slIndexFunc_iNodesRight_1.eq0_0 N)
  exact ok_of tabOK mixed rfl hs Tryz.func206 g1 (by kernel_rfl) rfl (slIndexFunc_iNodesRight_1.eq N) (fun _ => rfl)
def slContainsFunc_iNodesRight_1.tb (N : Nat) : Tabs := ⟨tt, fun a b c => look3 a b c [(0, 1, 2, CE.sig 206 [.d, .fn 152 0] (slIndexFunc_iNodesRight_1.S N))], fun a b => look2 a b []⟩
def slContainsFunc_iNodesRight_1.S (N : Nat) : Sig := ⟨slContainsFunc_iNodesRight_1.P, slContainsFunc_iNodesRight_1.R, false, false, [], false, slContainsFunc_iNodesRight_1.F N⟩
theorem slContainsFunc_iNodesRight_1.eq (N : Nat) (x : slContainsFunc_iNodesRight_1.P.D) : topV (slContainsFunc_iNodesRight_1.tb N) 0 Tryz.f151 [.d, .fn 152 0] slContainsFunc_iNodesRight_1.P slContainsFunc_iNodesRight_1.R false false [] x = slContainsFunc_iNodesRight_1.T N x := by kernel_rfl
theorem slContainsFunc_iNodesRight_1.ok (N : Nat) : Sound Tryz.prog 151 [.d, .fn 152 0] (slContainsFunc_iNodesRight_1.S N) := by
  have hs : SigsOK Tryz.prog (slContainsFunc_iNodesRight_1.tb N) := sigs_of _ rfl ⟨slIndexFunc_iNodesRight_1.ok N, trivial⟩
  have g0 : Goods Tryz.prog (slContainsFunc_iNodesRight_1.tb N) Tryz.f151 [] := goods_nil
  exact ok_of tabOK mixed rfl hs Tryz.func151 g0 (by kernel_rfl) rfl (slContainsFunc_iNodesRight_1.eq N) (fun _ => rfl)
def iNodesRight.tb (N : Nat) : Tabs := ⟨tt, fun a b c => look3 a b c [(0, 1, 2, CE.sig 34 [.d, .d, .d] (iwithin.S N)), (0, 3, 1, CE.sig 151 [.d, .fn 152 0] (slContainsFunc_iNodesRight_1.S N))], fun a b => look2 a b []⟩
def iNodesRight.S (N : Nat) : Sig := ⟨iNodesRight.P, iNodesRight.R, false, false, [], false, iNodesRight.F N⟩
theorem iNodesRight.eq (N : Nat) (x : iNodesRight.P.D) : topV (iNodesRight.tb N) 0 Tryz.f88 [.d] iNodesRight.P iNodesRight.R false false [] x = iNodesRight.T N x := by kernel_rfl
theorem iNodesRight.ok (N : Nat) : Sound Tryz.prog 88 [.d] (iNodesRight.S N) := by
  have hs : SigsOK Tryz.prog (iNodesRight.tb N) := sigs_of _ rfl ⟨iwithin.ok N, slContainsFunc_iNodesRight_1.ok N, trivial⟩
  have g0 : Goods Tryz.prog (iNodesRight.tb N) Tryz.f88 [] := goods_nil
  exact ok_of tabOK mixed rfl hs Tryz.func88 g0 (by kernel_rfl) rfl (iNodesRight.eq N) (fun _ => rfl)
def iNameRight.i0_0 : Tmpl := ⟨0, 51, [0, 24, 25], [.d (some 0) .str, .d (some 1) (.int .i64), .d none (.int .i64)], []⟩
def iNameRight.o0_0 : Tmpl := ⟨0, 51, [], [], []⟩
def iNameRight.r0_0 : Tmpl := ⟨0, 51, [2], [.d none .bool], []⟩
def iNameRight.G0_0 (N : Nat) : Frag := ⟨iNameRight.i0_0, iNameRight.o0_0, iNameRight.r0_0, iNameRight.C0_0, iNameRight.M0_0, iNameRight.O0_0, iNameRight.Q0_0, iNameRight.L0_0 N⟩
def iNameRight.tb (N : Nat) : Tabs := ⟨tt, fun a b c => look3 a b c [], fun a b => look2 a b [(0, 0, iNameRight.G0_0 N)]⟩
theorem iNameRight.eq0_0 (N : Nat) (c : iNameRight.C0_0.D) (m : iNameRight.M0_0.D) : roundV (iNameRight.tb N) 0 Tryz.f158 0 iNameRight.i0_0 iNameRight.o0_0 iNameRight.r0_0 iNameRight.M0_0 iNameRight.O0_0 iNameRight.Q0_0 (unpack iNameRight.C0_0 c) m = (iNameRight.B0_0 N c m).map (withC (stays (unpack iNameRight.C0_0 c) [0, 1]) (stays (unpack iNameRight.C0_0 c) []) (stays (unpack iNameRight.C0_0 c) [])) := by kernel_rfl
def iNameRight.S (N : Nat) : Sig := ⟨iNameRight.P, iNameRight.R, false, false, [], false, iNameRight.F N⟩
theorem iNameRight.eq (N : Nat) (x : iNameRight.P.D) : topV (iNameRight.tb N) 0 Tryz.f158 [.d] iNameRight.P iNameRight.R false false [] x = iNameRight.T N x := by kernel_rfl
theorem iNameRight.ok (N : Nat) : Sound Tryz.prog 158 [.d] (iNameRight.S N) := by
  have hs : SigsOK Tryz.prog (iNameRight.tb N) := sigs_of _ rfl trivial
  have g0 : Goods Tryz.prog (iNameRight.tb N) Tryz.f158 [] := goods_nil
  have g1 := goods_cons tabOK mixed rfl hs g0 0 (by kernel_rfl) (iNameRight.B0_0 N) N rfl (iNameRight.eq0_0 N)
  exact ok_of tabOK mixed rfl hs Tryz.func158 g1 (by kernel_rfl) rfl (iNameRight.eq N) (fun _ => rfl)
def iisWork.tb (N : Nat) : Tabs := ⟨tt, fun a b c => look3 a b c [(0, 1, 1, CE.sig 34 [.d, .d, .d] (iwithin.S N)), (0, 1, 4, CE.sig 34 [.d, .d, .d] (iwithin.S N)), (0, 1, 8, CE.sig 34 [.d, .d, .d] (iwithin.S N))], fun a b => look2 a b []⟩
def iisWork.S (N : Nat) : Sig := ⟨iisWork.P, iisWork.R, false, false, [], false, iisWork.F N⟩
theorem iisWork.eq (N : Nat) (x : iisWork.P.D) : topV (iisWork.tb N) 0 Tryz.f208 [.d, .d, .d] iisWork.P iisWork.R false false [] x = iisWork.T N x := by kernel_rfl
theorem iisWork.ok (N : Nat) : Sound Tryz.prog 208 [.d, .d, .d] (iisWork.S N) := by
  have hs : SigsOK Tryz.prog (iisWork.tb N) := sigs_of _ rfl ⟨iwithin.ok N, iwithin.ok N, iwithin.ok N, trivial⟩
  have g0 : Goods Tryz.prog (iisWork.tb N) Tryz.f208 [] := goods_nil
  exact ok_of tabOK mixed rfl hs Tryz.func208 g0 (by kernel_rfl) rfl (iisWork.eq N) (fun _ => rfl)
def iisNow.tb (N : Nat) : Tabs := ⟨tt, fun a b c => look3 a b c [(0, 1, 1, CE.sig 34 [.d, .d, .d] (iwithin.S N))], fun a b => look2 a b []⟩
def iisNow.S (N : Nat) : Sig := ⟨iisNow.P, iisNow.R, false, false, [], false, iisNow.F N⟩
theorem iisNow.eq (N : Nat) (x : iisNow.P.D) : topV (iisNow.tb N) 0 Tryz.f91 [.d] iisNow.P iisNow.R false false [] x = iisNow.T N x := by kernel_rfl
theorem iisNow.ok (N : Nat) : Sound Tryz.prog 91 [.d] (iisNow.S N) := by
  have hs : SigsOK Tryz.prog (iisNow.tb N) := sigs_of _ rfl ⟨iwithin.ok N, trivial⟩
  have g0 : Goods Tryz.prog (iisNow.tb N) Tryz.f91 [] := goods_nil
  exact ok_of tabOK mixed rfl hs Tryz.func91 g0 (by kernel_rfl) rfl (iisNow.eq N) (fun _ => rfl)
def iBelow.tb (N : Nat) : Tabs := ⟨tt, fun a b c => look3 a b c [(0, 1, 1, CE.sig 157 [.d] (iLabelRight.S N)), (0, 1, 4, CE.sig 157 [.d] (iLabelRight.S N)), (0, 1, 9, CE.sig 205 [.d, .d] (ibelow.S N))], fun a b => look2 a b []⟩
def iBelow.S (N : Nat) : Sig := ⟨iBelow.P, iBelow.R, false, false, [], false, iBelow.F N⟩
theorem iBelow.eq (N : Nat) (x : iBelow.P.D) : topV (iBelow.tb N) 0 Tryz.f209 [.d, .d] iBelow.P iBelow.R false false [] x = iBelow.T N x := by kernel_rfl
theorem iBelow.ok (N : Nat) : Sound Tryz.prog 209 [.d, .d] (iBelow.S N) := by
  have hs : SigsOK Tryz.prog (iBelow.tb N) := sigs_of _ rfl ⟨iLabelRight.ok N, iLabelRight.ok N, ibelow.ok N, trivial⟩
  have g0 : Goods Tryz.prog (iBelow.tb N) Tryz.f209 [] := goods_nil
  exact ok_of tabOK mixed rfl hs Tryz.func209 g0 (by kernel_rfl) rfl (iBelow.eq N) (fun _ => rfl)
def inodesRight.i0_0 : Tmpl := ⟨0, 35, [0, 1, 7, 8, 9], [.d (some 0) T89, .d (some 1) (.int .i64), .d (some 2) T89, .d (some 3) (.int .i64), .d none (.int .i64)], []⟩
def inodesRight.o0_0 : Tmpl := ⟨0, 35, [0, 1], [.d (some 0) T89, .d (some 1) (.int .i64)], []⟩
def inodesRight.r0_0 : Tmpl := ⟨0, 35, [4], [.d none .bool], []⟩
def inodesRight.G0_0 (N : Nat) : Frag := ⟨inodesRight.i0_0, inodesRight.o0_0, inodesRight.r0_0, inodesRight.C0_0, inodesRight.M0_0, inodesRight.O0_0, inodesRight.Q0_0, inodesRight.L0_0 N⟩
def inodesRight.tb (N : Nat) : Tabs := ⟨tt, fun a b c => look3 a b c [(0, 4, 1, CE.sig 34 [.d, .d, .d] (iwithin.S N))], fun a b => look2 a b [(0, 0, inodesRight.G0_0 N)]⟩
theorem inodesRight.eq0_0 (N : Nat) (c : inodesRight.C0_0.D) (m : inodesRight.M0_0.D) : roundV (inodesRight.tb N) 0 Tryz.f210 0 inodesRight.i0_0 inodesRight.o0_0 inodesRight.r0_0 inodesRight.M0_0 inodesRight.O0_0 inodesRight.Q0_0 (unpack inodesRight.C0_0 c) m = (inodesRight.B0_0 N c m).map (withC (stays (unpack inodesRight.C0_0 c) [0, 1, 2, 3]) (stays (unpack inodesRight.C0_0 c) [0, 1]) (stays (unpack inodesRight.C0_0 c) [])) := by kernel_rfl
def inodesRight.S (N : Nat) : Sig := ⟨inodesRight.P, inodesRight.R, false, false, [], false, inodesRight.F N⟩
theorem inodesRight.eq (N : Nat) (x : inodesRight.P.D) : topV (inodesRight.tb N) 0 Tryz.f210 [.d, .d] inodesRight.P inodesRight.R false false [] x = inodesRight.T N x := by kernel_rfl
theorem inodesRight.ok (N : Nat) : Sound Tryz.prog 210 [.d, .d] (inodesRight.S N) := by
  have hs : SigsOK Tryz.prog (inodesRight.tb N) := sigs_of _ rfl ⟨iwithin.ok N, trivial⟩
  have g0 : Goods Tryz.prog (inodesRight.tb N) Tryz.f210 [] := goods_nil
  have g1 := goods_cons tabOK mixed rfl hs g0 0 (by kernel_rfl) (inodesRight.B0_0 N) N rfl (inodesRight.eq0_0 N)
  exact ok_of tabOK mixed rfl hs Tryz.func210 g1 (by kernel_rfl) rfl (inodesRight.eq N) (fun _ => rfl)
def iTask_hasPlace.tb (N : Nat) : Tabs := ⟨tt, fun a b c => look3 a b c [], fun a b => look2 a b []⟩
def iTask_hasPlace.S (N : Nat) : Sig := ⟨iTask_hasPlace.P, iTask_hasPlace.R, false, false, [], false, iTask_hasPlace.F N⟩
theorem iTask_hasPlace.eq (N : Nat) (x : iTask_hasPlace.P.D) : topV (iTask_hasPlace.tb N) 0 Tryz.f166 [.d] iTask_hasPlace.P iTask_hasPlace.R false false [] x = iTask_hasPlace.T N x := by kernel_rfl
theorem iTask_hasPlace.ok (N : Nat) : Sound Tryz.prog 166 [.d] (iTask_hasPlace.S N) := by
  have hs : SigsOK Tryz.prog (iTask_hasPlace.tb N) := sigs_of _ rfl trivial
  have g0 : Goods Tryz.prog (iTask_hasPlace.tb N) Tryz.f166 [] := goods_nil
  exact ok_of tabOK mixed rfl hs Tryz.func166 g0 (by kernel_rfl) rfl (iTask_hasPlace.eq N) (fun _ => rfl)
def iTaskRight.tb (N : Nat) : Tabs := ⟨tt, fun a b c => look3 a b c [(0, 1, 2, CE.sig 157 [.d] (iLabelRight.S N)), (0, 1, 7, CE.sig 34 [.d, .d, .d] (iwithin.S N)), (0, 1, 13, CE.sig 158 [.d] (iNameRight.S N)), (0, 1, 23, CE.sig 208 [.d, .d, .d] (iisWork.S N)), (0, 1, 29, CE.sig 91 [.d] (iisNow.S N)), (0, 1, 35, CE.sig 34 [.d, .d, .d] (iwithin.S N)), (0, 4, 2, CE.sig 34 [.d, .d, .d] (iwithin.S N)), (0, 4, 9, CE.sig 209 [.d, .d] (iBelow.S N)), (0, 7, 2, CE.sig 24 [.d] (iisTime.S N)), (0, 7, 8, CE.sig 210 [.d, .d] (inodesRight.S N)), (0, 6, 9, CE.sig 166 [.d] (iTask_hasPlace.S N)), (0, 8, 5, CE.sig 166 [.d] (iTask_hasPlace.S N))], fun a b => look2 a b []⟩
def iTaskRight.S (N : Nat) : Sig := ⟨iTaskRight.P, iTaskRight.R, false, false, [], false, iTaskRight.F N⟩
theorem iTaskRight.eq (N : Nat) (x : iTaskRight.P.D) : topV (iTaskRight.tb N) 0 Tryz.f155 [.d] iTaskRight.P iTaskRight.R false false [] x = iTaskRight.T N x := by kernel_rfl
theorem iTaskRight.ok (N : Nat) : Sound Tryz.prog 155 [.d] (iTaskRight.S N) := by
  have hs : SigsOK Tryz.prog (iTaskRight.tb N) := sigs_of _ rfl ⟨iLabelRight.ok N, iwithin.ok N, iNameRight.ok N, iisWork.ok N, iisNow.ok N, iwithin.ok N, iwithin.ok N, iBelow.ok N, iisTime.ok N, inodesRight.ok N, iTask_hasPlace.ok N, iTask_hasPlace.ok N, trivial⟩
  have g0 : Goods Tryz.prog (iTaskRight.tb N) Tryz.f155 [] := goods_nil
  exact ok_of tabOK mixed rfl hs Tryz.func155 g0 (by kernel_rfl) rfl (iTaskRight.eq N) (fun _ => rfl)
def itaskAt_1_pp.tb (N : Nat) : Tabs := ⟨tt, fun a b c => look3 a b c [], fun a b => look2 a b []⟩
def itaskAt_1_pp.S (N : Nat) : Sig := ⟨itaskAt_1_pp.P, itaskAt_1_pp.R, false, false, [], false, itaskAt_1_pp.F N⟩
theorem itaskAt_1_pp.eq (N : Nat) (x : itaskAt_1_pp.P.D) : topV (itaskAt_1_pp.tb N) 0 Tryz.f212 [.d, .ip, .ip] itaskAt_1_pp.P itaskAt_1_pp.R false false [] x = itaskAt_1_pp.T N x := by kernel_rfl
theorem itaskAt_1_pp.ok (N : Nat) : Sound Tryz.prog 212 [.d, .ip, .ip] (itaskAt_1_pp.S N) := by
  have hs : SigsOK Tryz.prog (itaskAt_1_pp.tb N) := sigs_of _ rfl trivial
  have g0 : Goods Tryz.prog (itaskAt_1_pp.tb N) Tryz.f212 [] := goods_nil
  exact ok_of tabOK mixed rfl hs Tryz.func212 g0 (by kernel_rfl) rfl (itaskAt_1_pp.eq N) (fun _ => rfl)
def slIndexFunc_itaskAt_1.i0_0 : Tmpl := ⟨0, 19, [0, 1, 7, 8], [.d (some 0) T50, .fn 212 [.ip (some 1) T86, .ip (some 2) (.int .i64)], .d (some 3) (.int .i64), .d none (.int .i64)], []⟩
def slIndexFunc_itaskAt_1.o0_0 : Tmpl := ⟨0, 19, [], [], []⟩
def slIndexFunc_itaskAt_1.r0_0 : Tmpl := ⟨0, 19, [4], [.d none (.int .i64)], []⟩
def slIndexFunc_itaskAt_1.G0_0 (N : Nat) : Frag := ⟨slIndexFunc_itaskAt_1.i0_0, slIndexFunc_itaskAt_1.o0_0, slIndexFunc_itaskAt_1.r0_0, slIndexFunc_itaskAt_1.C0_0, slIndexFunc_itaskAt_1.M0_0, slIndexFunc_itaskAt_1.O0_0, slIndexFunc_itaskAt_1.Q0_0, slIndexFunc_itaskAt_1.L0_0 N⟩
def slIndexFunc_itaskAt_1.tb (N : Nat) : Tabs := ⟨tt, fun a b c => look3 a b c [(0, 4, 5, CE.sig 212 [.d, .ip, .ip] (itaskAt_1_pp.S N))], fun a b => look2 a b [(0, 0, slIndexFunc_itaskAt_1.G0_0 N)]⟩
theorem slIndexFunc_itaskAt_1.eq0_0 (N : Nat) (c : slIndexFunc_itaskAt_1.C0_0.D) (m : slIndexFunc_itaskAt_1.M0_0.D) : roundV (slIndexFunc_itaskAt_1.tb N) 0 Tryz.f211 0 slIndexFunc_itaskAt_1.i0_0 slIndexFunc_itaskAt_1.o0_0 slIndexFunc_itaskAt_1.r0_0 slIndexFunc_itaskAt_1.M0_0 slIndexFunc_itaskAt_1.O0_0 slIndexFunc_itaskAt_1.Q0_0 (unpack slIndexFunc_itaskAt_1.C0_0 c) m = (slIndexFunc_itaskAt_1.B0_0 N c m).map (withC (stays (unpack slIndexFunc_itaskAt_1.C0_0 c) [0, 1, 2, 3]) (stays (unpack slIndexFunc_itaskAt_1.C0_0 c) []) (stays (unpack slIndexFunc_itaskAt_1.C0_0 c) [])) := by kernel_rfl
def slIndexFunc_itaskAt_1.S (N : Nat) : Sig := ⟨slIndexFunc_itaskAt_1.P, slIndexFunc_itaskAt_1.R, false, false, [], false, slIndexFunc_itaskAt_1.F N⟩
theorem slIndexFunc_itaskAt_1.eq (N : Nat) (x : slIndexFunc_itaskAt_1.P.D) : topV (slIndexFunc_itaskAt_1.tb N) 0 Tryz.f211 [.d, .fn 212 2] slIndexFunc_itaskAt_1.P slIndexFunc_itaskAt_1.R false false [] x = slIndexFunc_itaskAt_1.T N x := by kernel_rfl
theorem slIndexFunc_itaskAt_1.ok (N : Nat) : Sound Tryz.prog 211 [.d, .fn 212 2] (slIndexFunc_itaskAt_1.S N) := by
  have hs : SigsOK Tryz.prog (slIndexFunc_itaskAt_1.tb N) := sigs_of _ rfl ⟨itaskAt_1_pp.ok N, trivial⟩
  have g0 : Goods Tryz.prog (slIndexFunc_itaskAt_1.tb N) Tryz.f211 [] := goods_nil
  have g1 := goods_cons tabOK mixed rfl hs g0 0 (by kernel_rfl) (slIndexFunc_itaskAt_1.B0_0 N) N rfl (slIndexFunc_itaskAt_1.eq0_0 N)
  exact ok_of tabOK mixed rfl hs Tryz.func211 g1 (by kernel_rfl) rfl (slIndexFunc_itaskAt_1.eq N) (fun _ => rfl)
def itaskAt.tb (N : Nat) : Tabs := ⟨tt, fun a b c => look3 a b c [(0, 1, 2, CE.sig 211 [.d, .fn 212 2] (slIndexFunc_itaskAt_1.S N))], fun a b => look2 a b []⟩
def itaskAt.S (N : Nat) : Sig := ⟨itaskAt.P, itaskAt.R, false, false, [], false, itaskAt.F N⟩
theorem itaskAt.eq (N : Nat) (x : itaskAt.P.D) : topV (itaskAt.tb N) 0 Tryz.f156 [.d, .d, .d] itaskAt.P itaskAt.R false false [] x = itaskAt.T N x := by kernel_rfl
theorem itaskAt.ok (N : Nat) : Sound Tryz.prog 156 [.d, .d, .d] (itaskAt.S N) := by
  have hs : SigsOK Tryz.prog (itaskAt.tb N) := sigs_of _ rfl ⟨slIndexFunc_itaskAt_1.ok N, trivial⟩
  have g0 : Goods Tryz.prog (itaskAt.tb N) Tryz.f156 [] := goods_nil
  exact ok_of tabOK mixed rfl hs Tryz.func156 g0 (by kernel_rfl) rfl (itaskAt.eq N) (fun _ => rfl)
def iTasksRight.i0_0 : Tmpl := ⟨0, 63, [0, 10, 11, 12], [.d (some 0) T50, .d (some 1) T50, .d (some 2) (.int .i64), .d none (.int .i64)], []⟩
def iTasksRight.o0_0 : Tmpl := ⟨0, 63, [], [], []⟩
def iTasksRight.r0_0 : Tmpl := ⟨0, 63, [2], [.d none .bool], []⟩
def iTasksRight.G0_0 (N : Nat) : Frag := ⟨iTasksRight.i0_0, iTasksRight.o0_0, iTasksRight.r0_0, iTasksRight.C0_0, iTasksRight.M0_0, iTasksRight.O0_0, iTasksRight.Q0_0, iTasksRight.L0_0 N⟩
def iTasksRight.tb (N : Nat) : Tabs := ⟨tt, fun a b c => look3 a b c [(0, 6, 1, CE.sig 155 [.d] (iTaskRight.S N)), (0, 10, 8, CE.sig 106 [.d, .d] (icompareLabels.S N)), (0, 15, 14, CE.sig 156 [.d, .d, .d] (itaskAt.S N))], fun a b => look2 a b [(0, 0, iTasksRight.G0_0 N)]⟩
theorem iTasksRight.eq0_0 (N : Nat) (c : iTasksRight.C0_0.D) (m : iTasksRight.M0_0.D) : roundV (iTasksRight.tb N) 0 Tryz.f89 0 iTasksRight.i0_0 iTasksRight.o0_0 iTasksRight.r0_0 iTasksRight.M0_0 iTasksRight.O0_0 iTasksRight.Q0_0 (unpack iTasksRight.C0_0 c) m = (iTasksRight.B0_0 N c m).map (withC (stays (unpack iTasksRight.C0_0 c) [0, 1, 2]) (stays (unpack iTasksRight.C0_0 c) []) (stays (unpack iTasksRight.C0_0 c) [])) := by kernel_rfl
def iTasksRight.S (N : Nat) : Sig := ⟨iTasksRight.P, iTasksRight.R, false, false, [], false, iTasksRight.F N⟩
theorem iTasksRight.eq (N : Nat) (x : iTasksRight.P.D) : topV (iTasksRight.tb N) 0 Tryz.f89 [.d] iTasksRight.P iTasksRight.R false false [] x = iTasksRight.T N x := by kernel_rfl
theorem iTasksRight.ok (N : Nat) : Sound Tryz.prog 89 [.d] (iTasksRight.S N) := by
  have hs : SigsOK Tryz.prog (iTasksRight.tb N) := sigs_of _ rfl ⟨iTaskRight.ok N, icompareLabels.ok N, itaskAt.ok N, trivial⟩
  have g0 : Goods Tryz.prog (iTasksRight.tb N) Tryz.f89 [] := goods_nil
  have g1 := goods_cons tabOK mixed rfl hs g0 0 (by kernel_rfl) (iTasksRight.B0_0 N) N rfl (iTasksRight.eq0_0 N)
  exact ok_of tabOK mixed rfl hs Tryz.func89 g1 (by kernel_rfl) rfl (iTasksRight.eq N) (fun _ => rfl)
def icompareUses.tb (N : Nat) : Tabs := ⟨tt, fun a b c => look3 a b c [(0, 1, 4, CE.sig 106 [.d, .d] (icompareLabels.S N)), (0, 1, 9, CE.sig 213 [.d, .d] (strCompare.S N)), (0, 1, 11, CE.sig 174 [.d] (cmpOr_int.S N))], fun a b => look2 a b []⟩
def icompareUses.S (N : Nat) : Sig := ⟨icompareUses.P, icompareUses.R, false, false, [], false, icompareUses.F N⟩
theorem icompareUses.eq (N : Nat) (x : icompareUses.P.D) : topV (icompareUses.tb N) 0 Tryz.f159 [.d, .d] icompareUses.P icompareUses.R false false [] x = icompareUses.T N x := by kernel_rfl
theorem icompareUses.ok (N : Nat) : Sound Tryz.prog 159 [.d, .d] (icompareUses.S N) := by
  have hs : SigsOK Tryz.prog (icompareUses.tb N) := sigs_of _ rfl ⟨icompareLabels.ok N, strCompare.ok N, cmpOr_int.ok N, trivial⟩
  have g0 : Goods Tryz.prog (icompareUses.tb N) Tryz.f159 [] := goods_nil
  exact ok_of tabOK mixed rfl hs Tryz.func159 g0 (by kernel_rfl) rfl (icompareUses.eq N) (fun _ => rfl)
def iownersOf.i0_0 : Tmpl := ⟨1, 22, [3, 5, 8, 9, 10], [.cp 0 0, .d none (.int .i64), .d (some 0) T51, .d (some 1) (.int .i64), .d none (.int .i64)], [.cells [.d (some 2) (.int .i64), .d (some 3) (.int .i64)]]⟩
def iownersOf.o0_0 : Tmpl := ⟨1, 22, [5], [.d none (.int .i64)], [.dead]⟩
def iownersOf.r0_0 : Tmpl := ⟨0, 0, [], [.d (some 9999) .unit], []⟩
def iownersOf.G0_0 (N : Nat) : Frag := ⟨iownersOf.i0_0, iownersOf.o0_0, iownersOf.r0_0, iownersOf.C0_0, iownersOf.M0_0, iownersOf.O0_0, iownersOf.Q0_0, iownersOf.L0_0 N⟩
def iownersOf.tb (N : Nat) : Tabs := ⟨tt, fun a b c => look3 a b c [], fun a b => look2 a b [(0, 0, iownersOf.G0_0 N)]⟩
theorem iownersOf.eq0_0 (N : Nat) (c : iownersOf.C0_0.D) (m : iownersOf.M0_0.D) : roundV (iownersOf.tb N) 0 Tryz.f160 0 iownersOf.i0_0 iownersOf.o0_0 iownersOf.r0_0 iownersOf.M0_0 iownersOf.O0_0 iownersOf.Q0_0 (unpack iownersOf.C0_0 c) m = (iownersOf.B0_0 N c m).map (withC (stays (unpack iownersOf.C0_0 c) [0, 1, 2, 3]) (stays (unpack iownersOf.C0_0 c) []) (stays (unpack iownersOf.C0_0 c) [])) := by kernel_rfl
def iownersOf.S (N : Nat) : Sig := ⟨iownersOf.P, iownersOf.R, false, false, [], false, iownersOf.F N⟩
theorem iownersOf.eq (N : Nat) (x : iownersOf.P.D) : topV (iownersOf.tb N) 0 Tryz.f160 [.d, .d] iownersOf.P iownersOf.R false false [] x = iownersOf.T N x := by kernel_rfl
theorem iownersOf.ok (N : Nat) : Sound Tryz.prog 160 [.d, .d] (iownersOf.S N) := by
  have hs : SigsOK Tryz.prog (iownersOf.tb N) := sigs_of _ rfl trivial
  have g0 : Goods Tryz.prog (iownersOf.tb N) Tryz.f160 [] := goods_nil
  have g1 := goods_cons tabOK mixed rfl hs g0 0 (by kernel_rfl) (iownersOf.B0_0 N) N rfl (iownersOf.eq0_0 N)
  exact ok_of tabOK mixed rfl hs Tryz.func160 g1 (by kernel_rfl) rfl (iownersOf.eq N) (fun _ => rfl)
def iUsesRight.i0_0 : Tmpl := ⟨0, 53, [0, 5, 6, 7], [.d (some 0) T51, .d (some 1) T51, .d (some 2) (.int .i64), .d none (.int .i64)], []⟩
def iUsesRight.o0_0 : Tmpl := ⟨0, 53, [0], [.d (some 0) T51], []⟩
def iUsesRight.r0_0 : Tmpl := ⟨0, 53, [2], [.d none .bool], []⟩
def iUsesRight.G0_0 (N : Nat) : Frag := ⟨iUsesRight.i0_0, iUsesRight.o0_0, iUsesRight.r0_0, iUsesRight.C0_0, iUsesRight.M0_0, iUsesRight.O0_0, iUsesRight.Q0_0, iUsesRight.L0_0 N⟩
def iUsesRight.tb (N : Nat) : Tabs := ⟨tt, fun a b c => look3 a b c [(0, 4, 2, CE.sig 157 [.d] (iLabelRight.S N)), (0, 4, 7, CE.sig 158 [.d] (iNameRight.S N)), (0, 4, 13, CE.sig 34 [.d, .d, .d] (iwithin.S N)), (0, 4, 26, CE.sig 159 [.d, .d] (icompareUses.S N)), (0, 6, 5, CE.sig 160 [.d, .d] (iownersOf.S N))], fun a b => look2 a b [(0, 0, iUsesRight.G0_0 N)]⟩
theorem iUsesRight.eq0_0 (N : Nat) (c : iUsesRight.C0_0.D) (m : iUsesRight.M0_0.D) : roundV (iUsesRight.tb N) 0 Tryz.f90 0 iUsesRight.i0_0 iUsesRight.o0_0 iUsesRight.r0_0 iUsesRight.M0_0 iUsesRight.O0_0 iUsesRight.Q0_0 (unpack iUsesRight.C0_0 c) m = (iUsesRight.B0_0 N c m).map (withC (stays (unpack iUsesRight.C0_0 c) [0, 1, 2]) (stays (unpack iUsesRight.C0_0 c) [0]) (stays (unpack iUsesRight.C0_0 c) [])) := by kernel_rfl
def iUsesRight.S (N : Nat) : Sig := ⟨iUsesRight.P, iUsesRight.R, false, false, [], false, iUsesRight.F N⟩
theorem iUsesRight.eq (N : Nat) (x : iUsesRight.P.D) : topV (iUsesRight.tb N) 0 Tryz.f90 [.d] iUsesRight.P iUsesRight.R false false [] x = iUsesRight.T N x := by kernel_rfl
theorem iUsesRight.ok (N : Nat) : Sound Tryz.prog 90 [.d] (iUsesRight.S N) := by
  have hs : SigsOK Tryz.prog (iUsesRight.tb N) := sigs_of _ rfl ⟨iLabelRight.ok N, iNameRight.ok N, iwithin.ok N, icompareUses.ok N, iownersOf.ok N, trivial⟩
  have g0 : Goods Tryz.prog (iUsesRight.tb N) Tryz.f90 [] := goods_nil
  have g1 := goods_cons tabOK mixed rfl hs g0 0 (by kernel_rfl) (iUsesRight.B0_0 N) N rfl (iUsesRight.eq0_0 N)
  exact ok_of tabOK mixed rfl hs Tryz.func90 g1 (by kernel_rfl) rfl (iUsesRight.eq N) (fun _ => rfl)
def iConfig_clearFor.i0_0 : Tmpl := ⟨3, 26, [3, 5, 10, 11, 12], [.cp 1 0, .row 3, .d (some 0) T44, .d (some 1) (.int .i64), .d none (.int .i64)], [.dead, .cells [.d (some 2) (.int .i64), .d (some 3) (.int .i64)], .dead, .row none 2 (.int .i64)]⟩
def iConfig_clearFor.o0_0 : Tmpl := ⟨3, 26, [5], [.row 3], [.dead, .dead, .dead, .row none 2 (.int .i64)]⟩
def iConfig_clearFor.r0_0 : Tmpl := ⟨0, 0, [], [.d (some 9999) .unit], []⟩
def iConfig_clearFor.G0_0 (N : Nat) : Frag := ⟨iConfig_clearFor.i0_0, iConfig_clearFor.o0_0, iConfig_clearFor.r0_0, iConfig_clearFor.C0_0, iConfig_clearFor.M0_0, iConfig_clearFor.O0_0, iConfig_clearFor.Q0_0, iConfig_clearFor.L0_0 N⟩
def iConfig_clearFor.tb (N : Nat) : Tabs := ⟨tt, fun a b c => look3 a b c [(0, 5, 2, CE.sig 99 [.d, .d] (slContains_SLabel.S N))], fun a b => look2 a b [(0, 0, iConfig_clearFor.G0_0 N)]⟩
theorem iConfig_clearFor.eq0_0 (N : Nat) (c : iConfig_clearFor.C0_0.D) (m : iConfig_clearFor.M0_0.D) : roundV (iConfig_clearFor.tb N) 0 Tryz.f161 0 iConfig_clearFor.i0_0 iConfig_clearFor.o0_0 iConfig_clearFor.r0_0 iConfig_clearFor.M0_0 iConfig_clearFor.O0_0 iConfig_clearFor.Q0_0 (unpack iConfig_clearFor.C0_0 c) m = (iConfig_clearFor.B0_0 N c m).map (withC (stays (unpack iConfig_clearFor.C0_0 c) [0, 1, 2, 3]) (stays (unpack iConfig_clearFor.C0_0 c) []) (stays (unpack iConfig_clearFor.C0_0 c) [])) := by kernel_rfl
def iConfig_clearFor.S (N : Nat) : Sig := ⟨iConfig_clearFor.P, iConfig_clearFor.R, false, false, [true], false, iConfig_clearFor.F N⟩
theorem iConfig_clearFor.eq (N : Nat) (x : iConfig_clearFor.P.D) : topV (iConfig_clearFor.tb N) 0 Tryz.f161 [.d, .d] iConfig_clearFor.P iConfig_clearFor.R false false [true] x = iConfig_clearFor.T N x := by kernel_rfl
theorem iConfig_clearFor.ok (N : Nat) : Sound Tryz.prog 161 [.d, .d] (iConfig_clearFor.S N) := by
  have hs : SigsOK Tryz.prog (iConfig_clearFor.tb N) := sigs_of _ rfl ⟨slContains_SLabel.ok N, trivial⟩
  have g0 : Goods Tryz.prog (iConfig_clearFor.tb N) Tryz.f161 [] := goods_nil
  have g1 := goods_cons tabOK mixed rfl hs g0 0 (by kernel_rfl) (iConfig_clearFor.B0_0 N) N rfl (iConfig_clearFor.eq0_0 N)
  exact ok_of tabOK mixed rfl hs Tryz.func161 g1 (by kernel_rfl) rfl (iConfig_clearFor.eq N) (fun _ => rfl)
def slIndex_Sint64.i0_0 : Tmpl := ⟨0, 19, [0, 1, 7, 8], [.d (some 0) T89, .d (some 1) (.int .i64), .d (some 2) (.int .i64), .d none (.int .i64)], []⟩
def slIndex_Sint64.o0_0 : Tmpl := ⟨0, 19, [], [], []⟩
def slIndex_Sint64.r0_0 : Tmpl := ⟨0, 19, [4], [.d none (.int .i64)], []⟩
def slIndex_Sint64.G0_0 (N : Nat) : Frag := ⟨slIndex_Sint64.i0_0, slIndex_Sint64.o0_0, slIndex_Sint64.r0_0, slIndex_Sint64.C0_0, slIndex_Sint64.M0_0, slIndex_Sint64.O0_0, slIndex_Sint64.Q0_0, slIndex_Sint64.L0_0 N⟩
def slIndex_Sint64.tb (N : Nat) : Tabs := ⟨tt, fun a b c => look3 a b c [], fun a b => look2 a b [(0, 0, slIndex_Sint64.G0_0 N)]⟩
theorem slIndex_Sint64.eq0_0 (N : Nat) (c : slIndex_Sint64.C0_0.D) (m : slIndex_Sint64.M0_0.D) : roundV (slIndex_Sint64.tb N) 0 Tryz.f215 0 slIndex_Sint64.i0_0 slIndex_Sint64.o0_0 slIndex_Sint64.r0_0 slIndex_Sint64.M0_0 slIndex_Sint64.O0_0 slIndex_Sint64.Q0_0 (unpack slIndex_Sint64.C0_0 c) m = (slIndex_Sint64.B0_0 N c m).map (withC (stays (unpack slIndex_Sint64.C0_0 c) [0, 1, 2]) (stays (unpack slIndex_Sint64.C0_0 c) []) (stays (unpack slIndex_Sint64.C0_0 c) [])) := by kernel_rfl
def slIndex_Sint64.S (N : Nat) : Sig := ⟨slIndex_Sint64.P, slIndex_Sint64.R, false, false, [], false, slIndex_Sint64.F N⟩
theorem slIndex_Sint64.eq (N : Nat) (x : slIndex_Sint64.P.D) : topV (slIndex_Sint64.tb N) 0 Tryz.f215 [.d, .d] slIndex_Sint64.P slIndex_Sint64.R false false [] x = slIndex_Sint64.T N x := by kernel_rfl
theorem slIndex_Sint64.ok (N : Nat) : Sound Tryz.prog 215 [.d, .d] (slIndex_Sint64.S N) := by
  have hs : SigsOK Tryz.prog (slIndex_Sint64.tb N) := sigs_of _ rfl trivial
  have g0 : Goods Tryz.prog (slIndex_Sint64.tb N) Tryz.f215 [] := goods_nil
  have g1 := goods_cons tabOK mixed rfl hs g0 0 (by kernel_rfl) (slIndex_Sint64.B0_0 N) N rfl (slIndex_Sint64.eq0_0 N)
  exact ok_of tabOK mixed rfl hs Tryz.func215 g1 (by kernel_rfl) rfl (slIndex_Sint64.eq N) (fun _ => rfl)
def slContains_Sint64.tb (N : Nat) : Tabs := ⟨tt, fun a b c => look3 a b c [(0, 1, 2, CE.sig 215 [.d, .d] (slIndex_Sint64.S N))], fun a b => look2 a b []⟩
def slContains_Sint64.S (N : Nat) : Sig := ⟨slContains_Sint64.P, slContains_Sint64.R, false, false, [], false, slContains_Sint64.F N⟩
theorem slContains_Sint64.eq (N : Nat) (x : slContains_Sint64.P.D) : topV (slContains_Sint64.tb N) 0 Tryz.f164 [.d, .d] slContains_Sint64.P slContains_Sint64.R false false [] x = slContains_Sint64.T N x := by kernel_rfl
theorem slContains_Sint64.ok (N : Nat) : Sound Tryz.prog 164 [.d, .d] (slContains_Sint64.S N) := by
  have hs : SigsOK Tryz.prog (slContains_Sint64.tb N) := sigs_of _ rfl ⟨slIndex_Sint64.ok N, trivial⟩
  have g0 : Goods Tryz.prog (slContains_Sint64.tb N) Tryz.f164 [] := goods_nil
  exact ok_of tabOK mixed rfl hs Tryz.func164 g0 (by kernel_rfl) rfl (slContains_Sint64.eq N) (fun _ => rfl)
end Go.Proofs.YtjnfmjeiceiciaaGreat
