/-
A label's part: the reference's loops; the whole parts.
-/
import Derived.Test.YtjnfmjeiceiciaaGreatPureT
namespace Go.Proofs.YtjnfmjeiceiciaaGreat
open X Go
set_option linter.unusedVariables false
set_option linter.unusedSimpArgs false
set_option linter.unnecessarySimpa false
set_option maxRecDepth 100000

theorem sMany_F {N : Nat} (hN : 1048577 < N) (a : Lab) (l : List Tsk) (hl : l.length ≤ 1048576) : sl13Many.F N (l, a, ()) = some ((manyOf l a : Nat) : Int) := by
  have key : sl13Many.L0_0 N (l, a) ((0 : Int), (0 : Int), ()) = some (.inl (((manyOf l a : Nat) : Int), ())) :=
    iter_tc (B := sl13Many.B0_0 N (l, a)) l (fun _ => []) (fun t => labEq t.1 a) 0 0 (fun i t n => ((n : Int), (i : Int), ())) (fun t n => ((n : Int), ())) (fun t ht => Nat.le_refl 0)
      (fun i t n hi ht hn => by
        simp only [sl13Many.B0_0, eqbLab, rIte, rBind, rRet, ltLen hi, if_true, idxAt hi, Option.bind_some, wInc (show i < 9223372036854775807 by omega), wInc (show n < 9223372036854775807 by omega)]
        cases labEq l[i]!.1 a with
        | true => rw [if_pos rfl, if_pos rfl]
        | false =>
          rw [if_neg (by decide), if_neg (by decide)]
          rfl)
      (fun t n ht => by simp only [sl13Many.B0_0, rIte, rRet, ltEnd, Bool.false_eq_true, if_false]) (k := N) (t := []) (by omega) (Nat.le_refl 0)
  unfold sl13Many.F sl13Many.T
  dsimp only
  refine (bindStep key).trans ?_
  rfl

theorem sTasks_L {N : Nat} (hN : 1048577 < N) {q : TypeId} (a : Lab) (l : List Tsk) (hb : TskB l) (hok : ∀ t ∈ l, Ok (tTsk q) t) (c : sl18Part.C0_0.D) (hc1 : c.2.2.2.2.2.2.2.2.2.2.2.2.2.2.2.2.1 = l) (hc2 : c.2.2.2.2.2.2.2.2.2.1 = a.1) (hc3 : c.2.2.2.2.2.2.2.2.2.2.1 = a.2.1) (t : List UInt8) (ht : t.length ≤ 10) :
    sl18Part.L0_0 N c (t, (0 : Int), ()) = some (.inl (t ++ tasksT l a, ())) :=
  iter_text (B := sl18Part.B0_0 N c) l (tskIf a) 11000000 10 (fun i t => (t, (i : Int), ())) (fun t => (t, ())) (fun t ht => tskIf_len a t (hb.2 t ht)) hb.1
    (fun i t hi ht => by
      have hl := hb.1
      have e1 := sTaskBytes_F hN l[i]! (hb.2 _ (mem_at hi)) (hok _ (mem_at hi))
      have p1 := tskT_len l[i]! (hb.2 _ (mem_at hi))
      simp only [sl18Part.B0_0, hc1, hc2, hc3, eqbLab, labEq3, rIte, rBind, rRet, ltLen hi, if_true, idxAt hi, e1, Option.bind_some, wInc (show i < 9223372036854775807 by omega)]
      unfold tskIf
      cases labEq l[i]!.1 a with
      | true =>
        rw [if_pos rfl, if_pos (fitStr (by omega)), if_pos rfl]
      | false =>
        rw [if_neg (by decide), if_neg (by decide), List.append_nil])
    (fun t ht => by simp only [sl18Part.B0_0, hc1, rIte, rRet, ltEnd, Bool.false_eq_true, if_false]) (k := N) (by have := hb.1; omega) ht

theorem sUses_L {N : Nat} (hN : 1048577 < N) (a : Lab) (l : List Us) (hl : l.length ≤ 1048576) (hok : ∀ u ∈ l, Ok tUse u) (c : sl18Part.C0_4.D) (hc1 : c.2.2.2.2.2.2.2.2.2.2.2.2.2.2.2.2.2.2.1 = l) (hc2 : c.2.2.2.2.2.2.2.2.2.2.1 = a.1) (hc3 : c.2.2.2.2.2.2.2.2.2.2.2.1 = a.2.1) :
    sl18Part.L0_4 N c ((0 : Int), ([] : List UInt8), (0 : Int), ()) = some (.inl (((ownOf l a : Nat) : Int), usesT l a, ())) :=
  iter_tc (B := sl18Part.B0_4 N c) l (useIf a) (fun u => labEq u.1 a) 8020 0 (fun i t n => ((n : Int), t, (i : Int), ())) (fun t n => ((n : Int), t, ())) (fun u _ => useIf_len a u)
    (fun i t n hi ht hn => by
      obtain ⟨_, _, k3, _⟩ := hok _ (mem_at hi)
      have e1 : sPutText.F N (l[i]!.2.1, ()) = some (pT l[i]!.2.1) := sPutText_F hN (l[i]!.2.1, ())
      have e2 : sPutNum.F N l[i]!.2.2 = some (pN l[i]!.2.2.1) := sPutNum_F hN _ k3
      have p1 := pT_len l[i]!.2.1
      have p2 := pN_len l[i]!.2.2.1
      simp only [sl18Part.B0_4, hc1, hc2, hc3, eqbLab, labEq3, rIte, rBind, rRet, ltLen hi, if_true, idxAt hi, e1, e2, Option.bind_some, wInc (show i < 9223372036854775807 by omega), wInc (show n < 9223372036854775807 by omega)]
      unfold useIf
      cases labEq l[i]!.1 a with
      | true =>
        rw [if_pos rfl, if_pos (fitStr (by omega)), if_pos (fitStr (by rw [List.length_append]; omega)), if_pos rfl, if_pos rfl, List.append_assoc]
      | false =>
        rw [if_neg (by decide), if_neg (by decide), if_neg (by decide), List.append_nil]
        rfl)
    (fun t n ht => by simp only [sl18Part.B0_4, hc1, rIte, rRet, ltEnd, Bool.false_eq_true, if_false]) (k := N) (by omega) (Nat.le_refl 0)

theorem sLog_L {N : Nat} (hN : 1048577 < N) (l : List Nte) (hl : l.length ≤ 1048576) (hok : ∀ b ∈ l, Ok tLab b) (c : sl18Part.C0_12.D) (hc : c.2.2.2.2.2.2.2.2.2.2.2.2.2.2.2.2.2.2.2.2.2.2.1 = l) (t : List UInt8) (ht : t.length ≤ 100000000000000) :
    sl18Part.L0_12 N c (t, (0 : Int), ()) = some (.inl (t ++ l.flatMap bookT, ())) :=
  iter_text (B := sl18Part.B0_12 N c) l bookT 20 100000000000000 (fun i t => (t, (i : Int), ())) (fun t => (t, ())) (fun a _ => bookT_len a) hl
    (fun i t hi ht => by
      obtain ⟨k1, k2, _⟩ := hok _ (mem_at hi)
      have e1 := sPutNum_F hN _ k1
      have e2 : sPutNum.F N l[i]!.2 = some (pN l[i]!.2.1) := sPutNum_F hN _ k2
      have p1 := pN_len l[i]!.1
      have p2 := pN_len l[i]!.2.1
      simp only [sl18Part.B0_12, hc, rIte, rBind, rRet, ltLen hi, if_true, idxAt hi, e1, e2, Option.bind_some, wInc (show i < 9223372036854775807 by omega)]
      unfold bookT
      rw [if_pos (fitStr (by omega)), if_pos (fitStr (by rw [List.length_append]; omega)), List.append_assoc])
    (fun t ht => by simp only [sl18Part.B0_12, hc, rIte, rRet, ltEnd, Bool.false_eq_true, if_false]) (k := N) (by omega) ht

theorem sLogs_L {N : Nat} (hN : 1048577 < N) (a : Lab) (ps : List Par) (bs : List Bx) (hp : ps.length ≤ 1048576) (hl : bs.length = ps.length) (hok : ∀ b ∈ bs, BxO b) (c : sl18Part.C0_8.D) (hc1 : c.2.2.2.2.2.2.2.2.2.2.2.2.1 = ps) (hc2 : c.2.2.2.2.2.2.2.2.2.1 = a.1) (hc3 : c.2.2.2.2.2.2.2.2.2.2.1 = a.2.1) (hc4 : c.2.2.2.2.2.2.2.2.1 = bs) (t : List UInt8) (ht : t.length ≤ 20000000000000) :
    sl18Part.L0_8 N c (t, (0 : Int), ()) = some (.inl (t ++ logsT ps bs a, ())) :=
  iter_textN (B := sl18Part.B0_8 N c) ps.length (logIf ps bs a) 21000000 20000000000000 (fun i t => (t, (i : Int), ())) (fun t => (t, ())) (fun i hi => logIf_len ps bs a i (hok _ (mem_at (by omega))).2.2.1) hp
    (fun i t hi ht => by
      have hib : i < bs.length := by omega
      obtain ⟨_, _, k1, k2⟩ := hok _ (mem_at hib)
      have e1 := sPutNum_F hN _ (lenI64 (l := bs[i]!.2.2.1) (by omega))
      have p1 := pN_len (lenI bs[i]!.2.2.1)
      have e2 := sLog_L hN bs[i]!.2.2.1 k1 k2 ((i : Int), c.1, c.2.1, c.2.2.1, c.2.2.2.1, c.2.2.2.2.1, c.2.2.2.2.2.1, c.2.2.2.2.2.2.1, c.2.2.2.2.2.2.2.1, c.2.2.2.2.2.2.2.2.1, c.2.2.2.2.2.2.2.2.2.1, c.2.2.2.2.2.2.2.2.2.2.1, c.2.2.2.2.2.2.2.2.2.2.2.1, c.2.2.2.2.2.2.2.2.2.2.2.2.1, c.2.2.2.2.2.2.2.2.2.2.2.2.2.1, c.2.2.2.2.2.2.2.2.2.2.2.2.2.2.1, c.2.2.2.2.2.2.2.2.2.2.2.2.2.2.2.1, c.2.2.2.2.2.2.2.2.2.2.2.2.2.2.2.2.1, c.2.2.2.2.2.2.2.2.2.2.2.2.2.2.2.2.2.1, c.2.2.2.2.2.2.2.2.2.2.2.2.2.2.2.2.2.2.1, bs[i]!) rfl (t ++ pN (lenI bs[i]!.2.2.1)) (by rw [List.length_append]; omega)
      simp only [hc1, hc2, hc3, hc4] at e2
      simp only [sl18Part.B0_8, hc1, hc2, hc3, hc4, eqbLab, labEq3, rIte, rBind, rRet, ltLen hi, if_true, idxAt hi, idxAt hib, e1, e2, Option.bind_some, rInl, wInc (show i < 9223372036854775807 by omega)]
      unfold logIf
      cases labEq ps[i]!.1 a with
      | true =>
        rw [if_pos rfl, if_pos (fitStr (by omega)), if_pos rfl, List.append_assoc]
      | false =>
        rw [if_neg (by decide), if_neg (by decide), List.append_nil])
    (fun t ht => by simp only [sl18Part.B0_8, hc1, rIte, rRet, ltEnd, Bool.false_eq_true, if_false]) (k := N) (by omega) ht

theorem sHeres_L {N : Nat} (hN : 1048577 < N) (a : Lab) (ps : List Par) (bs : List Bx) (hp : ps.length ≤ 1048576) (hl : bs.length = ps.length) (hok : ∀ b ∈ bs, BxO b) (c : sl18Part.C0_16.D) (hc1 : c.2.2.2.2.2.2.2.2.2.2.2.2.1 = ps) (hc2 : c.2.2.2.2.2.2.2.2.2.1 = a.1) (hc3 : c.2.2.2.2.2.2.2.2.2.2.1 = a.2.1) (hc4 : c.2.2.2.2.2.2.2.2.1 = bs) (t : List UInt8) (ht : t.length ≤ 60000000000000) :
    sl18Part.L0_16 N c (t, (0 : Int), ()) = some (.inl (t ++ heresT ps bs a, ())) :=
  iter_textN (B := sl18Part.B0_16 N c) ps.length (hereIf ps bs a) 11000000 60000000000000 (fun i t => (t, (i : Int), ())) (fun t => (t, ())) (fun i hi => hereIf_len ps bs a i (hok _ (mem_at (by omega))).2.1.1) hp
    (fun i t hi ht => by
      have hib : i < bs.length := by omega
      obtain ⟨_, ⟨k1, k2⟩, _⟩ := hok _ (mem_at hib)
      have e1 := sl18Nums_F hN (bs[i]!.2.1, ()) k1 k2
      have p1 := pN_len (lenI bs[i]!.2.1)
      have p2 := pNs_len bs[i]!.2.1
      dsimp only at e1
      simp only [sl18Part.B0_16, hc1, hc2, hc3, hc4, eqbLab, labEq3, rIte, rBind, rRet, ltLen hi, if_true, idxAt hi, idxAt hib, e1, Option.bind_some, wInc (show i < 9223372036854775807 by omega)]
      unfold hereIf numsT
      cases labEq ps[i]!.2.1 a with
      | true =>
        rw [if_pos rfl, if_pos (fitStr (by rw [List.length_append]; omega)), if_pos rfl]
      | false =>
        rw [if_neg (by decide), if_neg (by decide), List.append_nil])
    (fun t ht => by simp only [sl18Part.B0_16, hc1, rIte, rRet, ltEnd, Bool.false_eq_true, if_false]) (k := N) (by omega) ht

theorem stepCat' {ρ : Type} {f : Option (List UInt8)} {a b : List UInt8} {k : List UInt8 → Tr ρ} {r : Option ρ} (hf : f = some b) (h : b.length + a.length ≤ 9223372036854775807) (hk : (k b).run = r) :
    (Tr.bind f fun x => .ite (decide (List.length x + List.length a ≤ maxStr)) (k x) .no).run = r := by
  rw [bindStep hf, rIte, if_pos (fitStr h), hk]

/-! ### The whole part of a label -/

structure StaP (q : TypeId) (s : Sta) : Prop where
  tasks : TskB s.1.2.2.1
  tok : ∀ t ∈ s.1.2.2.1, Ok (tTsk q) t
  uses : s.1.2.2.2.1.length ≤ 1048576
  uok : ∀ u ∈ s.1.2.2.2.1, Ok tUse u
  pairs : s.1.1.2.1.length ≤ 1048576
  boxes : s.2.1.1.length = s.1.1.2.1.length
  bok : ∀ b ∈ s.2.1.1, BxO b

theorem natI64 {n : Nat} (h : n ≤ 1048576) : I64 (n : Int) := by unfold I64; omega
theorem manyOf_le (l : List Tsk) (a : Lab) : manyOf l a ≤ l.length := List.countP_le_length
theorem ownOf_le (l : List Us) (a : Lab) : ownOf l a ≤ l.length := List.countP_le_length
theorem tasksT_len (l : List Tsk) (a : Lab) (h : TskB l) : (tasksT l a).length ≤ 12000000000000 := by
  have := flat_le l (tskIf a) 11000000 fun t ht => tskIf_len a t (h.2 t ht)
  have := h.1
  unfold tasksT
  omega
theorem usesT_len (l : List Us) (a : Lab) (h : l.length ≤ 1048576) : (usesT l a).length ≤ 12000000000 := by
  have := flat_le l (useIf a) 8020 fun u _ => useIf_len a u
  unfold usesT
  omega
theorem logsT_len (ps : List Par) (bs : List Bx) (a : Lab) (hp : ps.length ≤ 1048576) (hl : bs.length = ps.length) (hok : ∀ b ∈ bs, BxO b) : (logsT ps bs a).length ≤ 25000000000000 := by
  have := flat_le (List.range ps.length) (logIf ps bs a) 21000000 fun i hi => logIf_len ps bs a i (hok _ (mem_at (by rw [List.mem_range] at hi; omega))).2.2.1
  rw [List.length_range] at this
  unfold logsT
  omega

theorem ilabelPart_F {N : Nat} (hN : 1048577 < N) {q : TypeId} (s : Sta) (a : Lab) (h : StaP q s) : ilabelPart.F N (s, a, ()) = some (partT s a) := by
  have k1 := tasksT_len s.1.2.2.1 a h.tasks
  have k2 := usesT_len s.1.2.2.2.1 a h.uses
  have k3 := logsT_len s.1.1.2.1 s.2.1.1 a h.pairs h.boxes h.bok
  have m1 := manyOf_le s.1.2.2.1 a
  have m2 := ownOf_le s.1.2.2.2.1 a
  have ht := h.tasks.1
  have hu := h.uses
  have p1 := pN_len (manyOf s.1.2.2.1 a)
  have p2 := pN_len (ownOf s.1.2.2.2.1 a)
  unfold ilabelPart.F ilabelPart.T
  dsimp only
  refine (bindStep (iTasks_L hN a s.1.2.2.1 h.tasks h.tok _ rfl rfl rfl)).trans ?_
  rw [rInl]
  dsimp only
  refine (bindStep (iUses_L hN a s.1.2.2.2.1 h.uses h.uok _ rfl rfl rfl)).trans ?_
  rw [rInl]
  dsimp only
  refine stepCat' (b := pN (manyOf s.1.2.2.1 a)) (iPutNum_F hN _ (natI64 (by omega))) (by omega) ?_
  refine stepCat (b := pN (ownOf s.1.2.2.2.1 a)) (iPutNum_F hN _ (natI64 (by omega))) (by rw [List.length_append]; omega) ?_
  rw [rIte, if_pos (fitStr (by simp only [List.length_append]; omega))]
  refine (bindStep (iLogs_L hN a s.1.1.2.1 s.2.1.1 h.pairs h.boxes h.bok _ rfl rfl rfl rfl _ (by simp only [List.length_append]; omega))).trans ?_
  rw [rInl]
  dsimp only
  refine (bindStep (iHeres_L hN a s.1.1.2.1 s.2.1.1 h.pairs h.boxes h.bok _ rfl rfl rfl rfl _ (by simp only [List.length_append]; omega))).trans ?_
  rfl

theorem sl18Part_F {N : Nat} (hN : 1048577 < N) {q : TypeId} (s : Sta) (a : Lab) (h : StaP q s) : sl18Part.F N (s, a, ()) = some (partT s a) := by
  have k1 := tasksT_len s.1.2.2.1 a h.tasks
  have k2 := usesT_len s.1.2.2.2.1 a h.uses
  have k3 := logsT_len s.1.1.2.1 s.2.1.1 a h.pairs h.boxes h.bok
  have m1 := manyOf_le s.1.2.2.1 a
  have m2 := ownOf_le s.1.2.2.2.1 a
  have ht := h.tasks.1
  have hu := h.uses
  have p1 := pN_len (manyOf s.1.2.2.1 a)
  have p2 := pN_len (ownOf s.1.2.2.2.1 a)
  unfold sl18Part.F sl18Part.T
  dsimp only
  refine (bindStep (sMany_F hN a s.1.2.2.1 ht)).trans ?_
  refine (bindStep (sPutNum_F hN _ (natI64 (by omega)))).trans ?_
  refine (bindStep (sTasks_L hN a s.1.2.2.1 h.tasks h.tok _ rfl rfl rfl _ p1)).trans ?_
  rw [rInl]
  dsimp only
  refine (bindStep (sUses_L hN a s.1.2.2.2.1 h.uses h.uok _ rfl rfl rfl)).trans ?_
  rw [rInl]
  dsimp only
  refine stepCat (b := pN (ownOf s.1.2.2.2.1 a)) (sPutNum_F hN _ (natI64 (by omega))) (by rw [List.length_append]; omega) ?_
  rw [rIte, if_pos (fitStr (by simp only [List.length_append]; omega))]
  refine (bindStep (sLogs_L hN a s.1.1.2.1 s.2.1.1 h.pairs h.boxes h.bok _ rfl rfl rfl rfl _ (by simp only [List.length_append]; omega))).trans ?_
  rw [rInl]
  dsimp only
  refine (bindStep (sHeres_L hN a s.1.1.2.1 s.2.1.1 h.pairs h.boxes h.bok _ rfl rfl rfl rfl _ (by simp only [List.length_append]; omega))).trans ?_
  rfl
end Go.Proofs.YtjnfmjeiceiciaaGreat
