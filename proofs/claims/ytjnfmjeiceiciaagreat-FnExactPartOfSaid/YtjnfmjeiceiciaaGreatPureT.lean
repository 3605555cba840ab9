/-
A label's part as a text.
-/
import Derived.Test.YtjnfmjeiceiciaaGreatPureR
namespace Go.Proofs.YtjnfmjeiceiciaaGreat
open X Go
set_option linter.unusedVariables false
set_option linter.unusedSimpArgs false
set_option linter.unnecessarySimpa false
set_option maxRecDepth 100000

/-- A loop that lays texts one behind another and counts. -/
theorem iter_tc {M O R : Type} {B : M → Tr (Leaf M O R)} {α : Type} [Inhabited α] (l : List α) (g : α → List UInt8) (p : α → Bool) (G S : Nat) (mk : Nat → List UInt8 → Nat → M) (o : List UInt8 → Nat → O)
    (hg : ∀ a ∈ l, (g a).length ≤ G)
    (step : ∀ i t n, i < l.length → t.length ≤ S + i * G → n ≤ i → (B (mk i t n)).run = some (.more (mk (i + 1) (t ++ g l[i]!) (n + if p l[i]! = true then 1 else 0))))
    (last : ∀ t n, t.length ≤ S + l.length * G → (B (mk l.length t n)).run = some (.out (o t n))) {k : Nat} (hk : l.length < k) {t : List UInt8} (ht : t.length ≤ S) :
    iterT B k (mk 0 t 0) = some (.inl (o (t ++ l.flatMap g) (l.countP p))) := by
  have gen : ∀ k i t n, i ≤ l.length → l.length < i + k → t.length ≤ S + i * G → n ≤ i → iterT B k (mk i t n) = some (.inl (o (t ++ (l.drop i).flatMap g) (n + (l.drop i).countP p))) := by
    intro k
    induction k with
    | zero => intro i t n h1 h2; omega
    | succ k ih =>
      intro i t n h1 h2 h3 h4
      rw [iterT_succ]
      by_cases hn : i = l.length
      · subst hn
        rw [last t n h3, List.drop_length]
        simp
      · have hi : i < l.length := by omega
        rw [step i t n hi h3 h4]
        have hm : l[i]! ∈ l := mem_at hi
        have hgi := hg _ hm
        simp only
        rw [ih (i + 1) _ _ (by omega) (by omega) (by rw [List.length_append, Nat.succ_mul]; omega) (by split <;> omega)]
        rw [List.drop_eq_getElem_cons hi, List.flatMap_cons, List.countP_cons, ← getElem!_pos l i hi, List.append_assoc, Nat.add_assoc, Nat.add_comm (List.countP p _)]
  have := gen k 0 t 0 (Nat.zero_le _) (by omega) (by omega) (Nat.le_refl _)
  rwa [List.drop_zero, Nat.zero_add] at this

theorem range_at {n i : Nat} (h : i < n) : (List.range n)[i]! = i := by
  rw [getElem!_pos _ _ (by rw [List.length_range]; exact h), List.getElem_range]
theorem iter_textN {M O R : Type} {B : M → Tr (Leaf M O R)} (n : Nat) (g : Nat → List UInt8) (G S : Nat) (mk : Nat → List UInt8 → M) (o : List UInt8 → O)
    (hg : ∀ i, i < n → (g i).length ≤ G) (hl : n ≤ 1048576)
    (step : ∀ i t, i < n → t.length ≤ S + i * G → (B (mk i t)).run = some (.more (mk (i + 1) (t ++ g i))))
    (last : ∀ t, t.length ≤ S + n * G → (B (mk n t)).run = some (.out (o t))) {k : Nat} (hk : n < k) {t : List UInt8} (ht : t.length ≤ S) :
    iterT B k (mk 0 t) = some (.inl (o (t ++ (List.range n).flatMap g))) :=
  iter_text (List.range n) g G S mk o (fun a ha => hg a (List.mem_range.1 ha)) (by rw [List.length_range]; exact hl)
    (fun i t hi ht => by
      rw [List.length_range] at hi
      rw [range_at hi]
      exact step i t hi ht)
    (fun t ht => by
      rw [List.length_range] at ht ⊢
      exact last t ht) (by rw [List.length_range]; exact hk) ht

def tskIf (a : Lab) (t : Tsk) : List UInt8 := if labEq t.1 a = true then tskT t else []
def useIf (a : Lab) (u : Us) : List UInt8 := if labEq u.1 a = true then pT u.2.1 ++ pN u.2.2.1 else []
def logIf (ps : List Par) (bs : List Bx) (a : Lab) (i : Nat) : List UInt8 := if labEq ps[i]!.1 a = true then pN (lenI bs[i]!.2.2.1) ++ bs[i]!.2.2.1.flatMap bookT else []
def hereIf (ps : List Par) (bs : List Bx) (a : Lab) (i : Nat) : List UInt8 := if labEq ps[i]!.2.1 a = true then numsT bs[i]!.2.1 else []
def manyOf (l : List Tsk) (a : Lab) : Nat := l.countP fun t => labEq t.1 a
def ownOf (l : List Us) (a : Lab) : Nat := l.countP fun u => labEq u.1 a
def tasksT (l : List Tsk) (a : Lab) : List UInt8 := l.flatMap (tskIf a)
def usesT (l : List Us) (a : Lab) : List UInt8 := l.flatMap (useIf a)
def logsT (ps : List Par) (bs : List Bx) (a : Lab) : List UInt8 := (List.range ps.length).flatMap (logIf ps bs a)
def heresT (ps : List Par) (bs : List Bx) (a : Lab) : List UInt8 := (List.range ps.length).flatMap (hereIf ps bs a)
def partT (s : Sta) (a : Lab) : List UInt8 :=
  pN (manyOf s.1.2.2.1 a) ++ tasksT s.1.2.2.1 a ++ pN (ownOf s.1.2.2.2.1 a) ++ usesT s.1.2.2.2.1 a ++ logsT s.1.1.2.1 s.2.1.1 a ++ heresT s.1.1.2.1 s.2.1.1 a

theorem tskIf_len (a : Lab) (t : Tsk) (h : (tNodes t).length ≤ 1048576) : (tskIf a t).length ≤ 11000000 := by
  unfold tskIf
  split
  · exact tskT_len t h
  · exact Nat.zero_le _
theorem useIf_len (a : Lab) (u : Us) : (useIf a u).length ≤ 8020 := by
  unfold useIf
  split
  · have := pT_len u.2.1
    have := pN_len u.2.2.1
    rw [List.length_append]; omega
  · exact Nat.zero_le _
theorem logIf_len (ps : List Par) (bs : List Bx) (a : Lab) (i : Nat) (h : bs[i]!.2.2.1.length ≤ 1048576) : (logIf ps bs a i).length ≤ 21000000 := by
  unfold logIf
  split
  · have := pN_len (lenI bs[i]!.2.2.1)
    have := flat_le bs[i]!.2.2.1 bookT 20 fun a _ => bookT_len a
    rw [List.length_append]; omega
  · exact Nat.zero_le _
theorem hereIf_len (ps : List Par) (bs : List Bx) (a : Lab) (i : Nat) (h : bs[i]!.2.1.length ≤ 1048576) : (hereIf ps bs a i).length ≤ 11000000 := by
  unfold hereIf numsT
  split
  · have := pN_len (lenI bs[i]!.2.1)
    have := pNs_len bs[i]!.2.1
    rw [List.length_append]; omega
  · exact Nat.zero_le _
theorem labEq3 (x a : Lab) : labEq x (a.1, a.2.1, ()) = labEq x a := rfl

/-! ### The program's loops -/

theorem iTasks_L {N : Nat} (hN : 1048577 < N) {q : TypeId} (a : Lab) (l : List Tsk) (hb : TskB l) (hok : ∀ t ∈ l, Ok (tTsk q) t) (c : ilabelPart.C0_0.D) (hc1 : c.2.2.1 = l) (hc2 : c.2.2.2.1 = lenI l) (hc3 : c.2.2.2.2.2.2.2.2.2.2.2.2.2 = a) :
    ilabelPart.L0_0 N c (([] : List UInt8), (0 : Int), (0 : Int), ()) = some (.inl (tasksT l a, ((manyOf l a : Nat) : Int), ())) :=
  iter_tc (B := ilabelPart.B0_0 N c) l (tskIf a) (fun t => labEq t.1 a) 11000000 0 (fun i t n => (t, (n : Int), (i : Int), ())) (fun t n => (t, (n : Int), ())) (fun t ht => tskIf_len a t (hb.2 t ht))
    (fun i t n hi ht hn => by
      have hl := hb.1
      have e1 := iTaskBytes_F hN l[i]! (hb.2 _ (mem_at hi)) (hok _ (mem_at hi))
      have p1 := tskT_len l[i]! (hb.2 _ (mem_at hi))
      simp only [ilabelPart.B0_0, hc1, hc2, hc3, eqbLab, rIte, rBind, rRet, ltLen hi, if_true, idxAt hi, e1, Option.bind_some, wInc (show i < 9223372036854775807 by omega), wInc (show n < 9223372036854775807 by omega)]
      unfold tskIf
      cases labEq l[i]!.1 a with
      | true =>
        rw [if_pos rfl, if_pos (fitStr (by omega)), if_pos rfl, if_pos rfl]
      | false =>
        rw [if_neg (by decide), if_neg (by decide), if_neg (by decide), List.append_nil]
        rfl)
    (fun t n ht => by simp only [ilabelPart.B0_0, hc2, rIte, rRet, ltEnd, Bool.false_eq_true, if_false]) (k := N) (by have := hb.1; omega) (Nat.le_refl 0)

theorem iUses_L {N : Nat} (hN : 1048577 < N) (a : Lab) (l : List Us) (hl : l.length ≤ 1048576) (hok : ∀ u ∈ l, Ok tUse u) (c : ilabelPart.C0_4.D) (hc1 : c.2.2.1 = l) (hc2 : c.2.2.2.1 = lenI l) (hc3 : c.2.2.2.2.2.2.2.2.2.2.2.2.2 = a) :
    ilabelPart.L0_4 N c (([] : List UInt8), (0 : Int), (0 : Int), ()) = some (.inl (usesT l a, ((ownOf l a : Nat) : Int), ())) :=
  iter_tc (B := ilabelPart.B0_4 N c) l (useIf a) (fun u => labEq u.1 a) 8020 0 (fun i t n => (t, (n : Int), (i : Int), ())) (fun t n => (t, (n : Int), ())) (fun u _ => useIf_len a u)
    (fun i t n hi ht hn => by
      obtain ⟨_, _, k3, _⟩ := hok _ (mem_at hi)
      have e1 : iPutText.F N (l[i]!.2.1, ()) = some (pT l[i]!.2.1) := iPutText_F hN (l[i]!.2.1, ())
      have e2 : iPutNum.F N l[i]!.2.2 = some (pN l[i]!.2.2.1) := iPutNum_F hN _ k3
      have p1 := pT_len l[i]!.2.1
      have p2 := pN_len l[i]!.2.2.1
      simp only [ilabelPart.B0_4, hc1, hc2, hc3, eqbLab, rIte, rBind, rRet, ltLen hi, if_true, idxAt hi, e1, e2, Option.bind_some, wInc (show i < 9223372036854775807 by omega), wInc (show n < 9223372036854775807 by omega)]
      unfold useIf
      cases labEq l[i]!.1 a with
      | true =>
        rw [if_pos rfl, if_pos (fitStr (by omega)), if_pos (fitStr (by rw [List.length_append]; omega)), if_pos rfl, if_pos rfl]
      | false =>
        rw [if_neg (by decide), if_neg (by decide), if_neg (by decide), List.append_nil]
        rfl)
    (fun t n ht => by simp only [ilabelPart.B0_4, hc2, rIte, rRet, ltEnd, Bool.false_eq_true, if_false]) (k := N) (by omega) (Nat.le_refl 0)

theorem iLog_L {N : Nat} (hN : 1048577 < N) (l : List Nte) (hl : l.length ≤ 1048576) (hok : ∀ b ∈ l, Ok tLab b) (c : ilabelPart.C0_12.D) (hc : c.2.2.2.1 = l) (hc2 : c.2.2.2.2.1 = lenI l) (t : List UInt8) (ht : t.length ≤ 100000000000000) :
    ilabelPart.L0_12 N c (t, (0 : Int), ()) = some (.inl (t ++ l.flatMap bookT, ())) :=
  iter_text (B := ilabelPart.B0_12 N c) l bookT 20 100000000000000 (fun i t => (t, (i : Int), ())) (fun t => (t, ())) (fun a _ => bookT_len a) hl
    (fun i t hi ht => by
      have hp := bookT_len l[i]!
      obtain ⟨k1, k2, _⟩ := hok _ (mem_at hi)
      have e1 := iputNums2 hN k1 k2
      simp only [ilabelPart.B0_12, hc, hc2, rIte, rBind, rRet, ltLen hi, if_true, idxAt hi, e1, Option.bind_some, wInc (show i < 9223372036854775807 by omega)]
      unfold bookT at hp ⊢
      rw [if_pos (fitStr (by omega))])
    (fun t ht => by simp only [ilabelPart.B0_12, hc2, rIte, rRet, ltEnd, Bool.false_eq_true, if_false]) (k := N) (by omega) ht

def BxO (b : Bx) : Prop := (b.1.length ≤ 1048576 ∧ ∀ n ∈ b.1, I64 n) ∧ (b.2.1.length ≤ 1048576 ∧ ∀ n ∈ b.2.1, I64 n) ∧ (b.2.2.1.length ≤ 1048576 ∧ ∀ x ∈ b.2.2.1, Ok tLab x)

theorem iLogs_L {N : Nat} (hN : 1048577 < N) (a : Lab) (ps : List Par) (bs : List Bx) (hp : ps.length ≤ 1048576) (hl : bs.length = ps.length) (hok : ∀ b ∈ bs, BxO b) (c : ilabelPart.C0_8.D) (hc1 : c.1 = ps) (hc2 : c.2.1 = lenI ps) (hc3 : c.2.2.2.2.2.2.2.2.2.2.2 = a) (hc4 : c.2.2.2.2.2.2.2.2.2.2.1 = bs) (t : List UInt8) (ht : t.length ≤ 20000000000000) :
    ilabelPart.L0_8 N c (t, (0 : Int), ()) = some (.inl (t ++ logsT ps bs a, ())) :=
  iter_textN (B := ilabelPart.B0_8 N c) ps.length (logIf ps bs a) 21000000 20000000000000 (fun i t => (t, (i : Int), ())) (fun t => (t, ())) (fun i hi => logIf_len ps bs a i (hok _ (mem_at (by omega))).2.2.1) hp
    (fun i t hi ht => by
      have hib : i < bs.length := by omega
      obtain ⟨_, _, k1, k2⟩ := hok _ (mem_at hib)
      have e1 := iPutNum_F hN _ (lenI64 (l := bs[i]!.2.2.1) (by omega))
      have p1 := pN_len (lenI bs[i]!.2.2.1)
      have e2 := iLog_L hN bs[i]!.2.2.1 k1 k2 (ps, lenI ps, (i : Int), bs[i]!.2.2.1, lenI bs[i]!.2.2.1, c.2.2) rfl rfl (t ++ pN (lenI bs[i]!.2.2.1)) (by rw [List.length_append]; omega)
      simp only [ilabelPart.B0_8, hc1, hc2, hc3, hc4, eqbLab, rIte, rBind, rRet, ltLen hi, if_true, idxAt hi, idxAt hib, e1, e2, Option.bind_some, rInl, wInc (show i < 9223372036854775807 by omega)]
      unfold logIf
      cases labEq ps[i]!.1 a with
      | true =>
        rw [if_pos rfl, if_pos (fitStr (by omega)), if_pos rfl, List.append_assoc]
      | false =>
        rw [if_neg (by decide), if_neg (by decide), List.append_nil])
    (fun t ht => by simp only [ilabelPart.B0_8, hc2, rIte, rRet, ltEnd, Bool.false_eq_true, if_false]) (k := N) (by omega) ht

theorem iHeres_L {N : Nat} (hN : 1048577 < N) (a : Lab) (ps : List Par) (bs : List Bx) (hp : ps.length ≤ 1048576) (hl : bs.length = ps.length) (hok : ∀ b ∈ bs, BxO b) (c : ilabelPart.C0_16.D) (hc1 : c.1 = ps) (hc2 : c.2.1 = lenI ps) (hc3 : c.2.2.2.2.2.2.2.2.2.2.2 = a) (hc4 : c.2.2.2.2.2.2.2.2.2.2.1 = bs) (t : List UInt8) (ht : t.length ≤ 60000000000000) :
    ilabelPart.L0_16 N c (t, (0 : Int), ()) = some (.inl (t ++ heresT ps bs a, ())) :=
  iter_textN (B := ilabelPart.B0_16 N c) ps.length (hereIf ps bs a) 11000000 60000000000000 (fun i t => (t, (i : Int), ())) (fun t => (t, ())) (fun i hi => hereIf_len ps bs a i (hok _ (mem_at (by omega))).2.1.1) hp
    (fun i t hi ht => by
      have hib : i < bs.length := by omega
      obtain ⟨_, ⟨k1, k2⟩, _⟩ := hok _ (mem_at hib)
      have e1 := iPutNum_F hN _ (lenI64 (l := bs[i]!.2.1) (by omega))
      have p1 := pN_len (lenI bs[i]!.2.1)
      have e2 := iputNums_F hN (bs[i]!.2.1, ()) k1 k2
      have p2 := pNs_len bs[i]!.2.1
      dsimp only at e2
      simp only [ilabelPart.B0_16, hc1, hc2, hc3, hc4, eqbLab, rIte, rBind, rRet, ltLen hi, if_true, idxAt hi, idxAt hib, e1, e2, Option.bind_some, wInc (show i < 9223372036854775807 by omega)]
      unfold hereIf numsT
      cases labEq ps[i]!.2.1 a with
      | true =>
        rw [if_pos rfl, if_pos (fitStr (by omega)), if_pos (fitStr (by rw [List.length_append]; omega)), if_pos rfl]
      | false =>
        rw [if_neg (by decide), if_neg (by decide), List.append_nil])
    (fun t ht => by simp only [ilabelPart.B0_16, hc2, rIte, rRet, ltEnd, Bool.false_eq_true, if_false]) (k := N) (by omega) ht
end Go.Proofs.YtjnfmjeiceiciaaGreat
