/-
Tasks and nodes as texts.
-/
import Derived.Test.YtjnfmjeiceiciaaGreatPureP
namespace Go.Proofs.YtjnfmjeiceiciaaGreat
open X Go
set_option linter.unusedVariables false
set_option linter.unusedSimpArgs false
set_option linter.unnecessarySimpa false
set_option maxRecDepth 100000

theorem bindStep {ρ α : Type} {f : Option α} {b : α} {k : α → Tr ρ} (hf : f = some b) : (Tr.bind f k).run = (k b).run := by rw [rBind, hf, Option.bind_some]
theorem stepCat {ρ : Type} {f : Option (List UInt8)} {a b : List UInt8} {k : List UInt8 → Tr ρ} {r : Option ρ} (hf : f = some b) (h : a.length + b.length ≤ 9223372036854775807) (hk : (k b).run = r) :
    (Tr.bind f fun x => .ite (decide (List.length a + List.length x ≤ maxStr)) (k x) .no).run = r := by
  rw [bindStep hf, rIte, if_pos (fitStr h), hk]

def headT (t : Tsk) : List UInt8 :=
  pN t.1.1 ++ pN t.1.2.1 ++ pN t.2.1 ++ pT t.2.2.1 ++ pN t.2.2.2.1 ++ pN t.2.2.2.2.1 ++ pN t.2.2.2.2.2.1 ++ pN t.2.2.2.2.2.2.1.1 ++ pN t.2.2.2.2.2.2.1.2.1 ++ pN t.2.2.2.2.2.2.2.1 ++ pN t.2.2.2.2.2.2.2.2.1 ++ pN t.2.2.2.2.2.2.2.2.2.1 ++ pN t.2.2.2.2.2.2.2.2.2.2.1 ++ pN (lenI (tNodes t))
def tskT (t : Tsk) : List UInt8 := if taskR t = true then headT t ++ pNs (tNodes t) else []
theorem headT_len (t : Tsk) : (headT t).length ≤ 8200 := by
  unfold headT
  have q1 := pN_len t.1.1
  have q2 := pN_len t.1.2.1
  have q3 := pN_len t.2.1
  have q4 := pT_len t.2.2.1
  have q5 := pN_len t.2.2.2.1
  have q6 := pN_len t.2.2.2.2.1
  have q7 := pN_len t.2.2.2.2.2.1
  have q8 := pN_len t.2.2.2.2.2.2.1.1
  have q9 := pN_len t.2.2.2.2.2.2.1.2.1
  have q10 := pN_len t.2.2.2.2.2.2.2.1
  have q11 := pN_len t.2.2.2.2.2.2.2.2.1
  have q12 := pN_len t.2.2.2.2.2.2.2.2.2.1
  have q13 := pN_len t.2.2.2.2.2.2.2.2.2.2.1
  have q14 := pN_len (lenI (tNodes t))
  simp only [List.length_append]
  omega
theorem tskT_len (t : Tsk) (h : (tNodes t).length ≤ 1048576) : (tskT t).length ≤ 11000000 := by
  unfold tskT
  split
  · have h1 := headT_len t
    have h2 := pNs_len (tNodes t)
    rw [List.length_append]
    omega
  · exact Nat.zero_le _

theorem headT_eq (t : Tsk) : headT t = pNs [t.1.1, t.1.2.1, t.2.1] ++ pT t.2.2.1 ++ pNs [t.2.2.2.1, t.2.2.2.2.1, t.2.2.2.2.2.1, t.2.2.2.2.2.2.1.1, t.2.2.2.2.2.2.1.2.1, t.2.2.2.2.2.2.2.1, t.2.2.2.2.2.2.2.2.1, t.2.2.2.2.2.2.2.2.2.1, t.2.2.2.2.2.2.2.2.2.2.1, lenI (tNodes t)] := by
  unfold headT pNs
  simp only [List.flatMap_cons, List.flatMap_nil, List.append_nil, List.append_assoc]

theorem ok64 {n : Int} (h : Ok tI n) : I64 n := h

theorem iTaskBytes_F {N : Nat} (hN : 1048577 < N) {a : TypeId} (t : Tsk) (hl : (tNodes t).length ≤ 1048576) (hok : Ok (tTsk a) t) : iTaskBytes.F N (t, ()) = some (tskT t) := by
  obtain ⟨⟨k1, k2, _⟩, k3, _, k5, k6, k7, ⟨k8, k9, _⟩, k10, k11, k12, k13, k14, _⟩ := hok
  have hr := iTaskRight_F hN (t, ()) hl
  unfold iTaskBytes.F iTaskBytes.T tskT
  dsimp only
  refine (bindStep hr).trans ?_
  rw [rIte]
  cases taskR t with
  | false => rfl
  | true =>
    rw [if_neg (by decide), if_pos rfl]
    have q4 := pT_len t.2.2.1
    have n1 := pNs_len [t.1.1, t.1.2.1, t.2.1]
    have n2 := pNs_len [t.2.2.2.1, t.2.2.2.2.1, t.2.2.2.2.2.1, t.2.2.2.2.2.2.1.1, t.2.2.2.2.2.2.1.2.1, t.2.2.2.2.2.2.2.1, t.2.2.2.2.2.2.2.2.1, t.2.2.2.2.2.2.2.2.2.1, t.2.2.2.2.2.2.2.2.2.2.1, lenI (tNodes t)]
    have n3 := pNs_len (tNodes t)
    simp only [List.length_cons, List.length_nil] at n1 n2
    have e1 : iputNums.F N (([t.1.1, t.1.2.1, t.2.1] : List Int), ()) = some (pNs [t.1.1, t.1.2.1, t.2.1]) := iputNums_F hN ([t.1.1, t.1.2.1, t.2.1], ()) (by simp) (by
      intro n hn
      simp only [List.mem_cons, List.not_mem_nil, or_false] at hn
      rcases hn with rfl | rfl | rfl <;> assumption)
    have e2 : iputNums.F N (([t.2.2.2.1, t.2.2.2.2.1, t.2.2.2.2.2.1, t.2.2.2.2.2.2.1.1, t.2.2.2.2.2.2.1.2.1, t.2.2.2.2.2.2.2.1, t.2.2.2.2.2.2.2.2.1, t.2.2.2.2.2.2.2.2.2.1, t.2.2.2.2.2.2.2.2.2.2.1, lenI (tNodes t)] : List Int), ()) = some (pNs [t.2.2.2.1, t.2.2.2.2.1, t.2.2.2.2.2.1, t.2.2.2.2.2.2.1.1, t.2.2.2.2.2.2.1.2.1, t.2.2.2.2.2.2.2.1, t.2.2.2.2.2.2.2.2.1, t.2.2.2.2.2.2.2.2.2.1, t.2.2.2.2.2.2.2.2.2.2.1, lenI (tNodes t)]) := iputNums_F hN ([t.2.2.2.1, t.2.2.2.2.1, t.2.2.2.2.2.1, t.2.2.2.2.2.2.1.1, t.2.2.2.2.2.2.1.2.1, t.2.2.2.2.2.2.2.1, t.2.2.2.2.2.2.2.2.1, t.2.2.2.2.2.2.2.2.2.1, t.2.2.2.2.2.2.2.2.2.2.1, lenI (tNodes t)], ()) (by simp) (by
      intro n hn
      simp only [List.mem_cons, List.not_mem_nil, or_false] at hn
      have kl := lenI64 (l := tNodes t) (by omega)
      rcases hn with rfl | rfl | rfl | rfl | rfl | rfl | rfl | rfl | rfl | rfl <;> assumption)
    have e3 : iputNums.F N t.2.2.2.2.2.2.2.2.2.2.2 = some (pNs (tNodes t)) := iputNums_F hN (tNodes t, ()) hl k14.2
    refine (bindStep e1).trans ?_
    refine stepCat (b := pT t.2.2.1) (iPutText_F hN (t.2.2.1, ())) (by omega) ?_
    refine stepCat e2 (by simp only [List.length_append]; omega) ?_
    refine stepCat e3 (by simp only [List.length_append]; omega) ?_
    rw [rRet, headT_eq]

theorem sTaskNodes_L {N : Nat} (hN : 1048577 < N) (l : List Int) (hl : l.length ≤ 1048576) (hok : ∀ n ∈ l, I64 n) (c : sTaskBytes.C0_0.D) (hc : c.2.2.2.2.2.2.2.2.2.2.2.2.2.1 = l) (t : List UInt8) (ht : t.length ≤ 8200) :
    sTaskBytes.L0_0 N c (t, (0 : Int), ()) = some (.inl (t ++ pNs l, ())) :=
  iter_text (B := sTaskBytes.B0_0 N c) l pN 10 8200 (fun i t => (t, (i : Int), ())) (fun t => (t, ())) (fun a _ => pN_len a) hl
    (fun i t hi ht => by
      have hp := pN_len l[i]!
      have e1 := sPutNum_F hN l[i]! (hok _ (mem_at hi))
      simp only [sTaskBytes.B0_0, hc, rIte, rBind, rRet, ltLen hi, if_true, idxAt hi, e1, Option.bind_some, wInc (show i < 9223372036854775807 by omega)]
      rw [if_pos (fitStr (by omega))])
    (fun t ht => by simp only [sTaskBytes.B0_0, hc, rIte, rRet, ltEnd, Bool.false_eq_true, if_false]) (k := N) (by omega) ht

theorem sTaskBytes_F {N : Nat} (hN : 1048577 < N) {a : TypeId} (t : Tsk) (hl : (tNodes t).length ≤ 1048576) (hok : Ok (tTsk a) t) : sTaskBytes.F N (t, ()) = some (tskT t) := by
  obtain ⟨⟨k1, k2, _⟩, k3, _, k5, k6, k7, ⟨k8, k9, _⟩, k10, k11, k12, k13, k14, _⟩ := hok
  have hr := sTaskRight_F hN (t, ()) hl
  unfold sTaskBytes.F sTaskBytes.T tskT
  dsimp only
  refine (bindStep hr).trans ?_
  rw [rIte]
  cases taskR t with
  | false => rfl
  | true =>
    rw [if_neg (by decide), if_pos rfl]
    have q1 := pN_len t.1.1
    have q2 := pN_len t.1.2.1
    have q3 := pN_len t.2.1
    have q4 := pT_len t.2.2.1
    have q5 := pN_len t.2.2.2.1
    have q6 := pN_len t.2.2.2.2.1
    have q7 := pN_len t.2.2.2.2.2.1
    have q8 := pN_len t.2.2.2.2.2.2.1.1
    have q9 := pN_len t.2.2.2.2.2.2.1.2.1
    have q10 := pN_len t.2.2.2.2.2.2.2.1
    have q11 := pN_len t.2.2.2.2.2.2.2.2.1
    have q12 := pN_len t.2.2.2.2.2.2.2.2.2.1
    have q13 := pN_len t.2.2.2.2.2.2.2.2.2.2.1
    have q14 := pN_len (lenI (tNodes t))
    have kl := lenI64 (l := tNodes t) (by omega)
    have hh := headT_len t
    refine (bindStep (sPutNum_F hN t.1.1 k1)).trans ?_
    refine stepCat (b := pN t.1.2.1) (sPutNum_F hN t.1.2.1 k2) (by omega) ?_
    refine stepCat (sPutNum_F hN t.2.1 k3) (by simp only [List.length_append]; omega) ?_
    refine stepCat (b := pT t.2.2.1) (sPutText_F hN (t.2.2.1, ())) (by simp only [List.length_append]; omega) ?_
    refine stepCat (sPutNum_F hN t.2.2.2.1 k5) (by simp only [List.length_append]; omega) ?_
    refine stepCat (sPutNum_F hN t.2.2.2.2.1 k6) (by simp only [List.length_append]; omega) ?_
    refine stepCat (sPutNum_F hN t.2.2.2.2.2.1 k7) (by simp only [List.length_append]; omega) ?_
    refine stepCat (sPutNum_F hN t.2.2.2.2.2.2.1.1 k8) (by simp only [List.length_append]; omega) ?_
    refine stepCat (b := pN t.2.2.2.2.2.2.1.2.1) (sPutNum_F hN t.2.2.2.2.2.2.1.2.1 k9) (by simp only [List.length_append]; omega) ?_
    refine stepCat (sPutNum_F hN t.2.2.2.2.2.2.2.1 k10) (by simp only [List.length_append]; omega) ?_
    refine stepCat (sPutNum_F hN t.2.2.2.2.2.2.2.2.1 k11) (by simp only [List.length_append]; omega) ?_
    refine stepCat (sPutNum_F hN t.2.2.2.2.2.2.2.2.2.1 k12) (by simp only [List.length_append]; omega) ?_
    refine stepCat (sPutNum_F hN t.2.2.2.2.2.2.2.2.2.2.1 k13) (by simp only [List.length_append]; omega) ?_
    refine stepCat (sPutNum_F hN (lenI (tNodes t)) kl) (by simp only [List.length_append]; omega) ?_
    refine (bindStep (sTaskNodes_L hN (tNodes t) hl k14.2 _ rfl (headT t) hh)).trans ?_
    rfl

/-! ### The nodes' part -/

def bookT (b : Spn) : List UInt8 := pN b.1 ++ pN b.2.1
theorem bookT_len (b : Spn) : (bookT b).length ≤ 20 := by
  unfold bookT
  have := pN_len b.1
  have := pN_len b.2.1
  rw [List.length_append]; omega
def nodT (n : Nod) : List UInt8 := pN n.1 ++ pN (lenI n.2.1) ++ n.2.1.flatMap bookT
theorem nodT_len (n : Nod) (h : n.2.1.length ≤ 1048576) : (nodT n).length ≤ 21000000 := by
  unfold nodT
  have := pN_len n.1
  have := pN_len (lenI n.2.1)
  have := flat_le n.2.1 bookT 20 fun a _ => bookT_len a
  simp only [List.length_append]; omega
def sysT (y : Yrd) : List UInt8 := pN y.2.2.2.2.1 ++ y.2.1.flatMap nodT

theorem pNs2 (a b : Int) : pNs [a, b] = pN a ++ pN b := by
  unfold pNs
  simp only [List.flatMap_cons, List.flatMap_nil, List.append_nil]
theorem iputNums2 {N : Nat} (hN : 1048577 < N) {a b : Int} (ha : I64 a) (hb : I64 b) : iputNums.F N (([a, b] : List Int), ()) = some (pN a ++ pN b) := by
  rw [← pNs2]
  exact iputNums_F hN ([a, b], ()) (by simp) (by
    intro n hn
    simp only [List.mem_cons, List.not_mem_nil, or_false] at hn
    rcases hn with rfl | rfl <;> assumption)

theorem iBooks_L {N : Nat} (hN : 1048577 < N) (l : List Spn) (hl : l.length ≤ 1048576) (hok : ∀ b ∈ l, Ok tLab b) (c : inodesPart.C0_4.D) (hc : c.2.2.2.1 = l) (hc2 : c.2.2.2.2.1 = lenI l) (t : List UInt8) (ht : t.length ≤ 100000000000000) :
    inodesPart.L0_4 N c (t, (0 : Int), ()) = some (.inl (t ++ l.flatMap bookT, ())) :=
  iter_text (B := inodesPart.B0_4 N c) l bookT 20 100000000000000 (fun i t => (t, (i : Int), ())) (fun t => (t, ())) (fun a _ => bookT_len a) hl
    (fun i t hi ht => by
      have hp := bookT_len l[i]!
      obtain ⟨k1, k2, _⟩ := hok _ (mem_at hi)
      have e1 := iputNums2 hN k1 k2
      simp only [inodesPart.B0_4, hc, hc2, rIte, rBind, rRet, ltLen hi, if_true, idxAt hi, e1, Option.bind_some, wInc (show i < 9223372036854775807 by omega)]
      unfold bookT at hp ⊢
      rw [if_pos (fitStr (by omega))])
    (fun t ht => by simp only [inodesPart.B0_4, hc2, rIte, rRet, ltEnd, Bool.false_eq_true, if_false]) (k := N) (by omega) ht

theorem inodesPart_F {N : Nat} (hN : 1048577 < N) {e f : TypeId} (s : Sta) (hb : NodB s.1.2.1) (hok : Ok (.slice e (tNod f)) s.1.2.1) (hn : I64 s.1.2.2.2.2.1) : inodesPart.F N (s, ()) = some (sysT s.1) := by
  have key : inodesPart.L0_0 N (s.1.2.1, lenI s.1.2.1, ()) (pN s.1.2.2.2.2.1, (0 : Int), ()) = some (.inl (pN s.1.2.2.2.2.1 ++ s.1.2.1.flatMap nodT, ())) :=
    iter_text (B := inodesPart.B0_0 N (s.1.2.1, lenI s.1.2.1, ())) s.1.2.1 nodT 21000000 10 (fun i t => (t, (i : Int), ())) (fun t => (t, ())) (fun a ha => nodT_len a (hb.2 a ha)) hb.1
      (fun i t hi ht => by
        have hbn := hb.2 _ (mem_at hi)
        obtain ⟨k1, k2, _⟩ := hok.2 _ (mem_at hi)
        have hl := hb.1
        have kl := lenI64 (l := s.1.2.1[i]!.2.1) (by omega)
        have e1 := iputNums2 hN k1 kl
        have p1 := pN_len s.1.2.1[i]!.1
        have p2 := pN_len (lenI s.1.2.1[i]!.2.1)
        have e2 := iBooks_L hN s.1.2.1[i]!.2.1 hbn k2.2 (s.1.2.1, lenI s.1.2.1, (i : Int), s.1.2.1[i]!.2.1, lenI s.1.2.1[i]!.2.1, ()) rfl rfl (t ++ (pN s.1.2.1[i]!.1 ++ pN (lenI s.1.2.1[i]!.2.1))) (by simp only [List.length_append]; omega)
        simp only [inodesPart.B0_0, rIte, rBind, rRet, ltLen hi, if_true, idxAt hi, e1, Option.bind_some, wInc (show i < 9223372036854775807 by omega)]
        rw [if_pos (fitStr (by simp only [List.length_append]; omega)), e2, Option.bind_some, rInl, rRet]
        unfold nodT
        simp only [List.append_assoc])
      (fun t ht => by simp only [inodesPart.B0_0, rIte, rRet, ltEnd, Bool.false_eq_true, if_false]) (k := N) (by have := hb.1; omega) (pN_len _)
  unfold inodesPart.F inodesPart.T
  dsimp only
  refine (bindStep (b := pN s.1.2.2.2.2.1) (iPutNum_F hN s.1.2.2.2.2.1 hn)).trans ?_
  refine (bindStep key).trans ?_
  rfl

theorem sBooks_L {N : Nat} (hN : 1048577 < N) (nodes : List Nod) (j : Nat) (hj : j < nodes.length) (hl : nodes[j]!.2.1.length ≤ 1048576) (hok : ∀ b ∈ nodes[j]!.2.1, Ok tLab b) (c : sl18System.C0_4.D) (hc1 : c.1 = (j : Int)) (hc : c.2.2.2.2.2.1 = nodes) (t : List UInt8) (ht : t.length ≤ 100000000000000) :
    sl18System.L0_4 N c (t, (0 : Int), ()) = some (.inl (t ++ nodes[j]!.2.1.flatMap bookT, ())) :=
  iter_text (B := sl18System.B0_4 N c) nodes[j]!.2.1 bookT 20 100000000000000 (fun i t => (t, (i : Int), ())) (fun t => (t, ())) (fun a _ => bookT_len a) hl
    (fun i t hi ht => by
      have p1 := pN_len nodes[j]!.2.1[i]!.1
      have p2 := pN_len nodes[j]!.2.1[i]!.2.1
      obtain ⟨k1, k2, _⟩ := hok _ (mem_at hi)
      have e1 := sPutNum_F hN _ k1
      have e2 : sPutNum.F N nodes[j]!.2.1[i]!.2 = some (pN nodes[j]!.2.1[i]!.2.1) := sPutNum_F hN _ k2
      simp only [sl18System.B0_4, hc, hc1, rIte, rBind, rRet, idxAt hj, ltLen hi, if_true, idxAt hi, e1, e2, Option.bind_some, wInc (show i < 9223372036854775807 by omega)]
      unfold bookT
      rw [if_pos (fitStr (by omega)), if_pos (fitStr (by rw [List.length_append]; omega)), List.append_assoc])
    (fun t ht => by simp only [sl18System.B0_4, hc, hc1, rIte, rBind, rRet, idxAt hj, Option.bind_some, ltEnd, Bool.false_eq_true, if_false]) (k := N) (by omega) ht

theorem sl18System_F {N : Nat} (hN : 1048577 < N) {e f : TypeId} (y : Yrd) (hb : NodB y.2.1) (hok : Ok (.slice e (tNod f)) y.2.1) (hn : I64 y.2.2.2.2.1) : sl18System.F N (y, ()) = some (sysT y) := by
  have key : sl18System.L0_0 N (y.1.1, y.1.2.1, y.1.2.2.1, y.1.2.2.2.1, y.2) (pN y.2.2.2.2.1, (0 : Int), ()) = some (.inl (pN y.2.2.2.2.1 ++ y.2.1.flatMap nodT, ())) :=
    iter_text (B := sl18System.B0_0 N (y.1.1, y.1.2.1, y.1.2.2.1, y.1.2.2.2.1, y.2)) y.2.1 nodT 21000000 10 (fun i t => (t, (i : Int), ())) (fun t => (t, ())) (fun a ha => nodT_len a (hb.2 a ha)) hb.1
      (fun i t hi ht => by
        have hbn := hb.2 _ (mem_at hi)
        obtain ⟨k1, k2, _⟩ := hok.2 _ (mem_at hi)
        have hl := hb.1
        have kl := lenI64 (l := y.2.1[i]!.2.1) (by omega)
        have e1 := sPutNum_F hN _ k1
        have e3 := sPutNum_F hN _ kl
        have p1 := pN_len y.2.1[i]!.1
        have p2 := pN_len (lenI y.2.1[i]!.2.1)
        have e2 := sBooks_L hN y.2.1 i hi hbn k2.2 ((i : Int), y.1.1, y.1.2.1, y.1.2.2.1, y.1.2.2.2.1, y.2) rfl rfl ((t ++ pN y.2.1[i]!.1) ++ pN (lenI y.2.1[i]!.2.1)) (by simp only [List.length_append]; omega)
        simp only [sl18System.B0_0, rIte, rBind, rRet, ltLen hi, if_true, idxAt hi, e1, e3, Option.bind_some, wInc (show i < 9223372036854775807 by omega)]
        rw [if_pos (fitStr (by omega)), if_pos (fitStr (by rw [List.length_append]; omega)), e2, Option.bind_some, rInl, rRet]
        unfold nodT
        simp only [List.append_assoc])
      (fun t ht => by simp only [sl18System.B0_0, rIte, rRet, ltEnd, Bool.false_eq_true, if_false]) (k := N) (by have := hb.1; omega) (pN_len _)
  unfold sl18System.F sl18System.T
  dsimp only
  refine (bindStep (b := pN y.2.2.2.2.1) (sPutNum_F hN y.2.2.2.2.1 hn)).trans ?_
  refine (bindStep key).trans ?_
  rfl
end Go.Proofs.YtjnfmjeiceiciaaGreat
