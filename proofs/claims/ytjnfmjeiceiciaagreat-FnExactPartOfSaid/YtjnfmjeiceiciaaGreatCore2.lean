/-
The language's soundness, part 2: CoreO CoreP CoreQ CoreR CoreS CoreT CoreU CoreV CoreW CoreX CoreY CoreZ CoreZa CoreZb CoreZc CoreZd CoreZe CoreZf CoreZg.
-/
import Derived.Test.YtjnfmjeiceiciaaGreatCore1
import Derived.Deep.AppendSrc
import Derived.Deep.Upon
import Derived.Lib.AppendZerosOnto
import Derived.Orders
/-
Operations that write: stores.
-/
namespace Go.Proofs.YtjnfmjeiceiciaaGreat
namespace X
open Go Go.RowKit
set_option linter.unusedVariables false
set_option linter.unusedSimpArgs false
set_option linter.unnecessarySimpa false
set_option linter.unusedSectionVars false

/-- Behind an operation. -/
structure DoSt (B : Base) (μ : Hd) (S : BSet) (w : World) (v : V) (h' : Hp) (u : Value) (w' : World) (μ' : Hd) (S' : BSet) : Prop where
  step : Step B μ μ' S S' w w'
  inv : Inv B μ' S' w' h'
  rep : VRep μ' S' w' v u

def OpDoes (P : Program) (B : Base) (o : Oper) (a : Act) (μ : Hd) (S : BSet) (w : World) (v : V) (h' : Hp) : Prop :=
  ∀ (K : Act → World → Prop) (Q : Exit → Act → World → Prop), (∀ u w' μ' S', DoSt B μ S w v h' u w' μ' S' → K (a.put o.dst u) w') → o.wp P a w K Q

theorem OpNew.does {P : Program} {B : Base} {o : Oper} {a : Act} {μ : Hd} {S : BSet} {w : World} {h : Hp} {v : V} {hs : Hp} (I : Inv B μ S w h) (hn : OpNew P B o a μ S w h v hs) : OpDoes P B o a μ S w v (h ++ hs) :=
  fun K Q hk => hn K Q fun u w' μ' S' st => hk u w' μ' S' ⟨⟨st.le, ⟨st.grow, fun b hb => st.more.same b (I.lt b hb)⟩⟩, st.inv, st.rep⟩

theorem OpDoes.of_run {P : Program} {B : Base} {o : Oper} {a : Act} {μ μ' : Hd} {S S' : BSet} {w w' : World} {v : V} {h' : Hp} {u : Value} (hr : (execOp a.eval o).run P w = .ok (.value u) w')
    (hn : DoSt B μ S w v h' u w' μ' S') : OpDoes P B o a μ S w v h' := fun K Q hk => by
  unfold Oper.wp
  rw [hr, Oper.upon_value]
  exact hk u w' μ' S' hn

theorem OpDoes.of_skip {P : Program} {B : Base} {o : Oper} {a : Act} {μ μ' : Hd} {S S' : BSet} {w w' : World} {v : V} {h' : Hp} (hr : (execOp a.eval o).run P w = .ok .skip w')
    (hn : DoSt B μ S w v h' undef w' μ' S') : OpDoes P B o a μ S w v h' := fun K Q hk => by
  unfold Oper.wp
  rw [hr, Oper.upon_skip]
  exact hk undef w' μ' S' hn

theorem tiB_size {P : Program} {T : TypeId} {x : TI} (h : tiB P T x = true) (hb : x ≠ .bad) : ∃ i, P.info? T = some i ∧ i.size = x.size := by
  cases x with
  | d t => obtain ⟨i, z, hi, hs, _⟩ := infoB_spec (tyB_info h); exact ⟨i, hi, hs⟩
  | arr n E e =>
    simp only [tiB, Bool.and_eq_true] at h
    have h5 := h.2
    split at h5
    · rename_i i hi
      simp only [Bool.and_eq_true, beq_iff_eq] at h5
      exact ⟨i, hi, h5.1⟩
    · cases h5
  | one =>
    simp only [tiB, Bool.and_eq_true] at h
    have h5 := h.2
    split at h5
    · rename_i i hi
      simp only [beq_iff_eq] at h5
      exact ⟨i, hi, h5⟩
    · cases h5
  | bad => exact absurd rfl hb

theorem setRow_os (w : World) (g : Nat) (cs : Array Value) : (w.setRow g cs).os = w.os ∧ (w.setRow g cs).tape = w.tape ∧ (w.setRow g cs).output = w.output := ⟨rfl, rfl, rfl⟩

/-- One object's block is written. -/
theorem Inv.setRow {B : Base} {μ : Hd} {S : BSet} {w : World} {h : Hp} (I : Inv B μ S w h) {o : Nat} {ob ob' : Ob} {u : Value} (h1 : h[o]? = some ob) (h2 : μ o = some u) {g : Nat} {cs : Array Value}
    (hg : ownB ob u = some g) (hg' : ownB ob' u = some g ∨ ownB ob' u = none) (ho : Keeps S S w (w.setRow g cs) → ORep μ S (w.setRow g cs) ob' u) :
    Inv B μ S (w.setRow g cs) (h.set o ob') ∧ Keeps S S w (w.setRow g cs) := by
  have hS := (I.out o ob u g h1 h2 hg).1
  have hk : Keeps S S w (w.setRow g cs) := ⟨fun _ h => h, fun b hb => setRow_other w g b cs (fun e => hS (e ▸ hb))⟩
  exact I.write h1 h2 hg hg' rfl rfl rfl (size_setRow w g cs) (fun k hk => setRow_other w g k cs hk) (Nat.le_refl _) (ho hk)

theorem set1_rep {S S' : BSet} {w : World} {φ : (u : Ty) → u.D → Option u.D} : ∀ (t : Ty) (x : t.D) (i : Nat) (cs : List Value) (z : t.D), Rep S w t x cs → set1 φ t x i = some z →
    ∃ u y y' c1 c c2, fldT t i = some u ∧ φ u y = some y' ∧ cs = c1 ++ c ++ c2 ∧ c1.length = fldOff t i ∧ Rep S w u y c ∧ ∀ c', Rep S w u y' c' → Rep S w t z (c1 ++ c' ++ c2)
  | .pair a b, x, 0, cs, z, h, e => by
    simp only [set1] at e
    obtain ⟨c1, c2, rfl, h1, h2⟩ := h
    split at e
    · rename_i y' hy
      cases e
      exact ⟨a, x.1, y', [], c1, c2, rfl, hy, by simp, rfl, h1, fun c' hc' => ⟨c', c2, by simp, hc', h2⟩⟩
    · cases e
  | .pair a b, x, i + 1, cs, z, h, e => by
    simp only [set1] at e
    obtain ⟨c1, c2, rfl, h1, h2⟩ := h
    split at e
    · rename_i z' hz
      cases e
      obtain ⟨u, y, y', d1, d, d2, hf, hy, rfl, hl, hr, hset⟩ := set1_rep (S' := S') b x.2 i c2 z' h2 hz
      exact ⟨u, y, y', c1 ++ d1, d, d2, by simpa [fldT] using hf, hy, by simp, by simp [fldOff, hl, Rep.len a _ _ h1], hr, fun c' hc' => ⟨c1, d1 ++ c' ++ d2, by simp, h1, hset c' hc'⟩⟩
    · cases e
  | .int k, x, i, cs, z, h, e => by cases i <;> simp [set1] at e
  | .bool, x, i, cs, z, h, e => by cases i <;> simp [set1] at e
  | .str, x, i, cs, z, h, e => by cases i <;> simp [set1] at e
  | .unit, x, i, cs, z, h, e => by cases i <;> simp [set1] at e
  | .slice _ _, x, i, cs, z, h, e => by cases i <;> simp [set1] at e

theorem setF_rep {S : BSet} {w : World} {u : Ty} {y : u.D} : ∀ (fs : List Nat) (t : Ty) (x : t.D) (cs : List Value) (z : t.D), Rep S w t x cs → setF u y fs t x = some z →
    ∃ c1 c c2, cs = c1 ++ c ++ c2 ∧ c1.length = offsF t fs ∧ c.length = u.size ∧ ∀ c', Rep S w u y c' → Rep S w t z (c1 ++ c' ++ c2)
  | [], t, x, cs, z, h, e => by
    simp only [setF] at e
    split at e
    · rename_i hut
      subst hut
      cases e
      exact ⟨[], cs, [], by simp, rfl, Rep.len _ _ _ h, fun c' hc' => by simpa using hc'⟩
    · cases e
  | i :: fs, t, x, cs, z, h, e => by
    simp only [setF] at e
    obtain ⟨v, y0, y', c1, c, c2, hf, hy, rfl, hl, hr, hset⟩ := set1_rep (S' := S) t x i cs z h e
    obtain ⟨d1, d, d2, rfl, hl', hlen, hset'⟩ := setF_rep fs v y0 c y' hr hy
    refine ⟨c1 ++ d1, d, d2 ++ c2, by simp, by simp [offsF, hf, hl, hl'], hlen, fun c' hc' => ?_⟩
    have := hset _ (hset' c' hc')
    simpa [List.append_assoc] using this

theorem cut_take {α : Type} (l d : List α) (off m : Nat) (h1 : off + d.length ≤ m) (h2 : m ≤ l.length) :
    (l.take off ++ d ++ l.drop (off + d.length)).take m = (l.take m).take off ++ d ++ (l.take m).drop (off + d.length) := by
  have e1 : (l.take m).take off = l.take off := by rw [List.take_take, Nat.min_eq_left (by omega)]
  have hl : (l.take off).length = off := by rw [List.length_take]; omega
  rw [e1, List.drop_take, List.take_append, List.take_of_length_le (by simp; omega)]
  congr 1
  simp only [List.length_append, hl]

theorem cut_mid {α : Type} {p c q d : List α} : (p ++ c ++ q).take p.length ++ d ++ (p ++ c ++ q).drop (p.length + c.length) = p ++ d ++ q := by
  have h1 : (p ++ c ++ q).take p.length = p := by rw [List.append_assoc]; exact List.take_left
  have h2 : (p ++ c ++ q).drop (p.length + c.length) = q := by rw [show p.length + c.length = (p ++ c).length by simp]; exact List.drop_left
  rw [h1, h2]

theorem RepL.setAt {S : BSet} {w : World} {e : Ty} : ∀ (l : List e.D) (xs : List Value), RepL (Rep S w e) l xs → ∀ (i : Nat) (x : e.D), l[i]? = some x →
    ∃ p c q, xs = p ++ c ++ q ∧ p.length = i * e.size ∧ Rep S w e x c ∧ ∀ z c', Rep S w e z c' → RepL (Rep S w e) (l.set i z) (p ++ c' ++ q)
  | [], _, hl, i, x, hi => by simp at hi
  | y :: l, xs, ⟨c1, c2, e1, h1, h2⟩, i, x, hi => by
    have hc1 := Rep.len e y c1 h1
    cases i with
    | zero => simp at hi; subst hi; exact ⟨[], c1, c2, by simp [e1], by simp, h1, fun z c' hz => ⟨c', c2, by simp, hz, h2⟩⟩
    | succ i =>
      obtain ⟨p, c, q, rfl, hp, hr, hs⟩ := RepL.setAt l c2 h2 i x (by simpa using hi)
      exact ⟨c1 ++ p, c, q, by simp [e1], by simp [hc1, hp, Nat.succ_mul, Nat.add_comm], hr, fun z c' hz => ⟨c1, p ++ c' ++ q, by simp, h1, hs z c' hz⟩⟩

theorem implodeN_rep {μ : Hd} {S : BSet} {w : World} {h : Hp} {B : Base} (I : Inv B μ S w h) {e : Ty} : ∀ (n : Nat) (vs : List V) (us : List Value) (l : List e.D), VRepL μ S w vs us → implodeN e n vs h = some l → RepL (Rep (ltS w) w e) l us ∧ l.length = n
  | 0, [], us, l, hv, hi => by
    simp only [VRepL] at hv
    simp only [implodeN, Option.some.injEq] at hi
    subst hv; subst hi
    exact ⟨rfl, rfl⟩
  | 0, _ :: _, us, l, hv, hi => by simp [implodeN] at hi
  | n + 1, vs, us, l, hv, hi => by
    simp only [implodeN] at hi
    split at hi
    · rename_i x vs' h' hx
      split at hi
      · rename_i l' hl'
        cases hi
        obtain ⟨rfl, cs, us', rfl, hr, hv'⟩ := implode_borrow I e vs us x vs' h' hv hx
        obtain ⟨h1, h2⟩ := implodeN_rep I n vs' us' l' hv' hl'
        exact ⟨⟨cs, us', rfl, hr, h1⟩, by simp [h2]⟩
      · cases hi
    · cases hi

/-- Writing into an object's block. -/
theorem storeV_sound {P : Program} {tt : TypeId → TI} (ht : TabOK P tt) {B : Base} {μ : Hd} {S : BSet} {w : World} {h h' : Hp} (I : Inv B μ S w h) {T : TypeId} {p v : V} {up uv : Value} (hr : (storeV tt T p v h).run = some h')
    (hp : VRep μ S w p up) (hv : VRep μ S w v uv) : ∃ S' w', (Instr.storeAt T up uv).run P w = .ok () w' ∧ Step B μ μ S S' w w' ∧ Inv B μ S' w' h' := by
  unfold storeV at hr
  split at hr
  · rename_i o off
    split at hr
    · rename_i vs ho
      split at hr
      · rename_i hc
        obtain ⟨c1, c2, c3, c4⟩ := hc
        cases hr
        simp only [VRep] at hp
        obtain ⟨g, hm, rfl⟩ := hp
        obtain ⟨g', cs, T', he, hg, hvs, h1⟩ := I.obj o _ _ ho hm
        cases he
        have hvc := hv.cells v uv (by rintro rfl; cases c3)
        have hv1 := hv.cells1 v uv c3
        have hl1 := VRepL.len _ _ hvs
        have hl2 := VRepL.len _ _ hvc
        obtain ⟨i, hi, hs⟩ := tiB_size (ht T) c4
        have hsz : uv.cells.size = i.size := by rw [hs, ← c1, ← hl2, Array.length_toList]
        have hrun := run_storeAt_at (P := P) (T := T) hi (w := w) (g := g) (o := off) (u := uv) hg hsz (by rw [hsz, hs]; simp at hl1; omega) hv1
        obtain ⟨I', k⟩ := I.setRow (ob' := .cells (vs.take off ++ cellsOf v ++ vs.drop (off + (tt T).size))) (cs := (cs.toList.take off ++ uv.cells.toList ++ cs.toList.drop (off + uv.cells.size)).toArray) ho hm rfl (.inl rfl) fun k => by
          refine ⟨g, _, T', rfl, setRow_heap w g cs _ T' _ hg, ?_, ?_⟩
          · rw [show (tt T).size = uv.cells.size by rw [hsz, hs]]
            refine VRepL.keep (Hd.le.refl μ) k _ _ ?_
            exact VRepL.app _ _ _ _ (VRepL.app _ _ _ _ (VRepL.take _ _ _ hvs) hvc) (VRepL.drop _ _ _ hvs)
          · intro x hx
            simp only [List.mem_append] at hx
            rcases hx with (hx | hx) | hx
            · exact h1 x (List.mem_of_mem_take hx)
            · exact hv1 x hx
            · exact h1 x (List.mem_of_mem_drop hx)
        exact ⟨S, _, hrun, ⟨Hd.le.refl μ, k⟩, I'⟩
      · cases hr
    · cases hr
  · rename_i o e0 i fs
    split at hr
    · rename_i u hT
      split at hr
      · rename_i y h1 hy
        obtain ⟨S1, I1, k1', hy1⟩ := toD_froze I hv hy
        have k1 := k1'.keep
        simp only [VRep] at hp
        obtain ⟨g, hd, h0, rfl⟩ := hp
        have hlen := Rep.len u y _ hy1
        obtain ⟨info, hi, hs⟩ := tiB_size (ht T) (by rw [hT]; simp)
        rw [hT] at hs
        simp only [TI.size] at hs
        have hus : uv.cells.size = info.size := by rw [hs, ← hlen, Array.length_toList]
        have h1u := Rep.one u y _ hy1
        split at hr
        · rename_i E e l ho
          split at hr
          · rename_i hee
            subst hee
            obtain ⟨x, hx, hr⟩ := Tr.run_bind hr
            split at hr
            · rename_i z hz
              cases hr
              obtain ⟨hx0, hx1, hx2⟩ := idx_some hx
              obtain ⟨uo, hm⟩ := I1.dom o _ ho (by simp)
              obtain ⟨xs, hw, hl⟩ := I1.obj o _ _ ho hm
              obtain ⟨p, c, q, rfl, hpl, hrc, hset⟩ := RepL.setAt l xs hl _ x hx2
              obtain ⟨c1, c0, c2, rfl, hl1, hl0, hsf⟩ := setF_rep fs e x c z hrc hz
              rcases hw.2 with ⟨rfl, hn⟩ | ⟨g', cap, cur, rfl, hz0, hgg, hnc, hcm, hcs, htake⟩
              · rw [hn] at hx1; simp at hx1; omega
              · have hgg' : g' = g := by
                  rcases hd with ⟨n, c, hd⟩ | hd
                  · rw [hm] at hd; cases hd; rfl
                  · rw [hm] at hd; cases hd
                subst hgg'
                have hoff : i.toNat * e.size + offsF e fs = (p ++ c1).length := by simp [hpl, hl1]
                have hxl : (p ++ (c1 ++ c0 ++ c2) ++ q).length = l.length * e.size := hw.1
                have hcl : l.length * e.size ≤ cur.toList.length := by rw [Array.length_toList (xs := cur), hcs]; exact Nat.mul_le_mul_right _ hnc
                have hbound : (p ++ c1).length + uv.cells.toList.length ≤ l.length * e.size := by rw [← hxl, hlen, ← hl0]; simp; omega
                have hrun := run_storeAt_at (P := P) (T := T) hi (w := w) (g := g') (o := i.toNat * e.size + offsF e fs) (u := uv) hgg hus (by rw [hoff]; simp at hbound hcl ⊢; omega) h1u
                obtain ⟨I', k⟩ := I1.setRow (ob' := .row E e (l.set i.toNat z)) (cs := (cur.toList.take (i.toNat * e.size + offsF e fs) ++ uv.cells.toList ++ cur.toList.drop (i.toNat * e.size + offsF e fs + uv.cells.size)).toArray) ho hm rfl (.inl rfl) fun k => by
                  have hmid : (cur.toList.take (i.toNat * e.size + offsF e fs) ++ uv.cells.toList ++ cur.toList.drop (i.toNat * e.size + offsF e fs + uv.cells.size)).take (l.length * e.size) = p ++ (c1 ++ uv.cells.toList ++ c2) ++ q := by
                    rw [hoff, ← Array.length_toList (xs := uv.cells), cut_take _ _ _ _ hbound hcl, htake]
                    have : p ++ (c1 ++ c0 ++ c2) ++ q = (p ++ c1) ++ c0 ++ (c2 ++ q) := by simp
                    rw [this, show uv.cells.toList.length = c0.length by rw [hlen, hl0], cut_mid]
                    simp
                  refine ⟨p ++ (c1 ++ uv.cells.toList ++ c2) ++ q, ⟨?_, .inr ⟨g', cap, _, by rw [List.length_set], Nat.zero_le _, setRow_heap w g' cur _ _ _ hgg, by rw [List.length_set]; exact hnc, hcm, ?_, ?_⟩⟩, ?_⟩
                  · rw [List.length_set, ← hxl]; simp [hl0, ← hlen]
                  · rw [← hcs]; simp; simp at hbound hcl; omega
                  · rw [List.length_set]; exact hmid
                  · exact RepL.mono (fun x c => Rep.keep k e x c) _ _ (hset z _ (hsf _ hy1))
                exact ⟨S1, _, hrun, ⟨Hd.le.refl μ, k1.trans k⟩, I'⟩
            · cases hr
          · cases hr
        · rename_i e l ho
          split at hr
          · rename_i hee
            subst hee
            obtain ⟨x, hx, hr⟩ := Tr.run_bind hr
            split at hr
            · rename_i z hz
              cases hr
              obtain ⟨hx0, hx1, hx2⟩ := idx_some hx
              obtain ⟨uo, hm⟩ := I1.dom o _ ho (by simp)
              obtain ⟨g', cs, T', rfl, hgg, hl⟩ := I1.obj o _ _ ho hm
              obtain ⟨p, c, q, hcse, hpl, hrc, hset⟩ := RepL.setAt l _ hl _ x hx2
              obtain ⟨c1, c0, c2, rfl, hl1, hl0, hsf⟩ := setF_rep fs e x c z hrc hz
              have hgg' : g' = g := by
                rcases hd with ⟨n, c, hd⟩ | hd
                · rw [hm] at hd; cases hd
                · rw [hm] at hd; cases hd; rfl
              subst hgg'
              have hoff : i.toNat * e.size + offsF e fs = (p ++ c1).length := by simp [hpl, hl1]
              have hbound : (p ++ c1).length + uv.cells.toList.length ≤ cs.toList.length := by rw [hcse, hlen, ← hl0]; simp; omega
              have hrun := run_storeAt_at (P := P) (T := T) hi (w := w) (g := g') (o := i.toNat * e.size + offsF e fs) (u := uv) hgg hus (by rw [hoff]; simpa using hbound) h1u
              obtain ⟨I', k⟩ := I1.setRow (ob' := .arr e (l.set i.toNat z)) (cs := (cs.toList.take (i.toNat * e.size + offsF e fs) ++ uv.cells.toList ++ cs.toList.drop (i.toNat * e.size + offsF e fs + uv.cells.size)).toArray) ho hm rfl (.inl rfl) fun k => by
                refine ⟨g', _, T', rfl, setRow_heap w g' cs _ _ _ hgg, ?_⟩
                have hmid : cs.toList.take (i.toNat * e.size + offsF e fs) ++ uv.cells.toList ++ cs.toList.drop (i.toNat * e.size + offsF e fs + uv.cells.size) = p ++ (c1 ++ uv.cells.toList ++ c2) ++ q := by
                  rw [hoff, hcse]
                  have : p ++ (c1 ++ c0 ++ c2) ++ q = (p ++ c1) ++ c0 ++ (c2 ++ q) := by simp
                  rw [this, show uv.cells.size = c0.length by rw [← Array.length_toList, hlen, hl0], cut_mid]
                  simp
                have hfin := RepL.mono (fun x c => Rep.keep k e x c) _ _ (hset z _ (hsf _ hy1))
                rw [← hmid] at hfin
                exact hfin
              exact ⟨S1, _, hrun, ⟨Hd.le.refl μ, k1.trans k⟩, I'⟩
            · cases hr
          · cases hr
        · cases hr
      · cases hr
    · cases hr
  · rename_i o
    split at hr
    · rename_i n E el hT
      split at hr
      · rename_i e l ho
        split at hr
        · rename_i hc
          obtain ⟨rfl, hflat, hok⟩ := hc
          split at hr
          · rename_i l' hl'
            rcases Tr.run_ite hr with ⟨hb, hr⟩ | ⟨_, hr⟩
            · cases hr
              have hb' : n ≤ l.length := by simpa using hb
              simp only [VRep] at hp
              obtain ⟨g, hm, rfl⟩ := hp
              obtain ⟨g', cs, T', he, hg, hl⟩ := I.obj o _ _ ho hm
              cases he
              have hne : v ≠ .undef := by rintro rfl; cases hok
              have hvc := hv.cells v uv hne
              obtain ⟨hrep, hlen⟩ := implodeN_rep I n _ _ l' hvc hl'
              have hrep' : RepL (Rep S w e) l' uv.cells.toList := RepL.mono (fun x c => Rep.flat e x c hflat) _ _ hrep
              have h1u := RepL.one _ _ hrep'
              have hlu := RepL.len (fun x c hx => Rep.len e x c hx) _ _ hrep'
              have hlc := RepL.len (fun x c hx => Rep.len e x c hx) _ _ hl
              obtain ⟨info, hi, hs⟩ := tiB_size (ht T) (by rw [hT]; simp)
              rw [hT] at hs
              simp only [TI.size] at hs
              have hus : uv.cells.size = info.size := by rw [hs, ← Array.length_toList, hlu, hlen]
              have hrun := run_storeAt_at (P := P) (T := T) hi (w := w) (g := g) (o := 0) (u := uv) hg hus (by
                rw [Nat.zero_add, hus, hs, ← Array.length_toList (xs := cs), hlc]; exact Nat.mul_le_mul_right _ hb') h1u
              obtain ⟨I', k⟩ := I.setRow (ob' := .arr e (l' ++ l.drop n)) (cs := (cs.toList.take 0 ++ uv.cells.toList ++ cs.toList.drop (0 + uv.cells.size)).toArray) ho hm rfl (.inl rfl) fun k => by
                refine ⟨g, _, T', rfl, setRow_heap w g cs _ _ _ hg, ?_⟩
                have hfin := RepL.mono (fun x c => Rep.keep k e x c) _ _ (RepL.app _ _ _ _ hrep' (RepL.drop (fun x c hx => Rep.len e x c hx) n _ _ hl))
                have hee : (cs.toList.take 0 ++ uv.cells.toList ++ cs.toList.drop (0 + uv.cells.size)) = uv.cells.toList ++ cs.toList.drop (n * e.size) := by rw [List.take_zero, List.nil_append, Nat.zero_add, hus, hs]
                rw [← hee] at hfin
                exact hfin
              exact ⟨S, _, hrun, ⟨Hd.le.refl μ, k⟩, I'⟩
            · cases hr
          · cases hr
        · cases hr
      · cases hr
    · cases hr
  · cases hr

end X
end Go.Proofs.YtjnfmjeiceiciaaGreat

/-
Operations that write: append, clear, rows of literals whose rows are frozen; all of them.
-/
namespace Go.Proofs.YtjnfmjeiceiciaaGreat
namespace X
open Go Go.RowKit
set_option linter.unusedVariables false
set_option linter.unusedSimpArgs false
set_option linter.unnecessarySimpa false
set_option linter.unusedSectionVars false

/-- What 'append' is handed. -/
def AppSrc (P : Program) (size : Nat) (z : Value) (tx : TypeId) (x : Value) (m : Nat) (news : List Value) (w : World) : Prop :=
  Src P size tx x m news w ∨ ∃ kn, P.underlying tx = some (.int kn) ∧ x = .int .i64 m ∧ news = (Builtin.zeroCells z.cells m).toList

theorem AppSrc.len {P : Program} {size : Nat} {z : Value} {tx : TypeId} {x : Value} {m : Nat} {news : List Value} {w : World} (h : AppSrc P size z tx x m news w) (hz : z.cells.size = size) : news.length = m * size := by
  rcases h with h | ⟨kn, _, _, rfl⟩
  · exact h.newsLen
  · simp [Builtin.zeroCells, hz]

section
variable {P : Program} {w : World} {t tx ty e : TypeId} {i : TypeInfo} {z : Value} (ht : P.underlying t = some (.slice e)) (hi : P.info? e = some i) (hz : i.zero = some z) (hzs : z.cells.size = i.size) (hby : i.bytes ≤ 4096) (h0 : i.size ≠ 0)
 include ht hi hz hzs hby h0

theorem app_room {x : Value} {m : Nat} {news : List Value} (hs : AppSrc P i.size z tx x m news w) (h1 : ∀ u ∈ news, u.oneCell' = true) {g sLen sCap : Nat} {cur : Array Value} (hg : w.heap[g]? = some (.cells cur e (0, 0))) (hroom : sLen + m ≤ sCap) (hfit : sLen * i.size + news.length ≤ cur.size) (hm : sLen + m ≤ 4294967296) :
    (Builtin.append_ #[t, tx] ty #[.slice (some ⟨g, 0, none⟩) sLen sCap, x]).run P w = .ok (.slice (some ⟨g, 0, none⟩) (sLen + m) sCap) (w.setRow g (cur.toList.take (sLen * i.size) ++ news ++ cur.toList.drop (sLen * i.size + news.length)).toArray) := by
  have hst := run_storeCells_at P g (sLen * i.size) e news 0 cur w hg (by simpa using hfit) h1
  simp only [Nat.add_zero] at hst
  rcases hs with hs | ⟨kn, hk, rfl, rfl⟩
  · rcases hs.kind with ⟨e', hk⟩ | hk <;> simp [Builtin.append_, run_underlying ht, run_underlying hk, sizeOf, typeInfo, hi, hs.len, hroom, hs.cells, Addr.add_lit, hst]
  · have hw : IntKind.i64.wrap (m : Int) = m := by rw [IntKind.wrap_i64]; omega
    have hneg : ¬ ((m : Int) < 0) := by omega
    have h48i : ¬ (281474976710656 < (m : Int) * (i.bytes : Int)) := by
      have : m * i.bytes ≤ 4294967296 * 4096 := Nat.mul_le_mul (by omega) hby
      rw [← Int.natCast_mul]; omega
    by_cases hm0 : m = 0
    · subst hm0
      have hw0 : IntKind.i64.wrap (0 : Int) = 0 := by rw [IntKind.wrap_i64]; omega
      have hr0 : sLen ≤ sCap := by omega
      simp [Builtin.zeroCells, storeCells] at hst
      simp [Builtin.append_, run_underlying ht, run_underlying hk, sizeOf, typeInfo, zeroValue, hi, hz, asInt, asIntOf, hw0, hr0, Builtin.zeroCells, Addr.add_lit, storeCells]
      exact hst
    · have hns : ¬ (m * i.size = 0) := Nat.mul_ne_zero hm0 h0
      simp [Builtin.append_, run_underlying ht, run_underlying hk, sizeOf, typeInfo, zeroValue, hi, hz, asInt, asIntOf, hw, hneg, h48i, hroom, hns, Addr.add_lit]
      simp only [List.append_assoc, Array.length_toList] at hst
      rw [hst]; rfl

theorem app_grow {x : Value} {m : Nat} {news : List Value} (hs : AppSrc P i.size z tx x m news w) {base : Option Addr} {sLen sCap : Nat} {olds : List Value} (hold : (Builtin.firstCells i.size sLen (.slice base sLen sCap)).run P w.drew = .ok olds.toArray w.drew)
    (hg : sCap < sLen + m) (hle : sLen ≤ sCap) (hm : sLen + m ≤ 4294967296) :
    (Builtin.append_ #[t, tx] ty #[.slice base sLen sCap, x]).run P w = .ok (.slice (some ⟨w.heap.size, 0, none⟩) (sLen + m) (grownCap w (sLen + m) sCap e))
        (w.drew.alloc (.cells (olds.toArray ++ news.toArray ++ Builtin.zeroCells z.cells (grownCap w (sLen + m) sCap e - (sLen + m))) e)) := by
  have hb : (sLen + m) * i.bytes ≤ 140737488355328 := Nat.le_trans (Nat.mul_le_mul hm hby) (by omega)
  have hfit := growslice_fits hg hb
  rcases hs with hs | ⟨kn, hk, rfl, rfl⟩
  · have := run_append_grow_src (P := P) w t tx ty e i z ht hi hz base sLen sCap olds hold x m news hs hg (by omega) hfit
    rw [this]
    congr 3
    simp
  · have := Go.Lib.run_append_grow_zeros (P := P) w t tx ty e i z .i64 kn ht hk hi hz base sLen sCap olds hold m (by omega) (by omega) hg (by omega) (by
      have : m * i.bytes ≤ 4294967296 * 4096 := Nat.mul_le_mul (by omega) hby
      omega) hfit
    rw [this]

/-- 'append' onto a row of one's own. -/
theorem app_own {v x : Value} {n m : Nat} {xs news : List Value} (hown : w.ownsRow 0 e i.size v n xs) (hs : AppSrc P i.size z tx x m news w) (h1 : ∀ u ∈ news, u.oneCell' = true) (hm : n + m ≤ 4294967296) :
    ∃ v' w', (Builtin.append_ #[t, tx] ty #[v, x]).run P w = .ok v' w' ∧ w'.ownsRow 0 e i.size v' (n + m) (xs ++ news) ∧ (w.grownBy w' v.ownBlock ∧ w.drawn ≤ w'.drawn) ∧ (v'.ownBlock = v.ownBlock ∨ v'.ownBlock = some w.heap.size) := by
  have hl := hs.len hzs
  have hlen : (xs ++ news).length = (n + m) * i.size := by rw [List.length_append, hown.1, hl, Nat.add_mul]
  have hml : n + m ≤ maxLen := by simp only [maxLen]; omega
  have grown : ∀ (old : Nat), old < n + m → ∀ (row : Option Nat),
      (w.drew.alloc (.cells (xs.toArray ++ news.toArray ++ Builtin.zeroCells z.cells (grownCap w (n + m) old e - (n + m))) e)).ownsRow 0 e i.size
        (.slice (some ⟨w.heap.size, 0, none⟩) (n + m) (grownCap w (n + m) old e)) (n + m) (xs ++ news) ∧
      (w.grownBy (w.drew.alloc (.cells (xs.toArray ++ news.toArray ++ Builtin.zeroCells z.cells (grownCap w (n + m) old e - (n + m))) e)) row ∧ w.drawn ≤ (w.drew.alloc (.cells (xs.toArray ++ news.toArray ++ Builtin.zeroCells z.cells (grownCap w (n + m) old e - (n + m))) e)).drawn) := by
    intro old ho row
    have hge := grownCap_ge w (n + m) old e
    have hcm : grownCap w (n + m) old e ≤ maxLen := grownCap_le_maxLen w (n + m) old e hml
    refine ⟨⟨hlen, .inr ⟨w.heap.size, _, _, rfl, Nat.zero_le _, heap_alloc_new w.drew _, hge, hcm, ?_, ?_⟩⟩, ⟨⟨rfl, rfl, rfl, by simp, fun k hk _ => heap_alloc_old w.drew _ hk⟩, Nat.le_succ _⟩⟩
    · simp only [Array.size_append, List.size_toArray, size_zeroCells, hzs, hown.1, hl, ← Nat.add_mul]
      congr 1
      omega
    · simp only [Array.toList_append, List.append_assoc]
      rw [← List.append_assoc, ← hlen]
      exact List.take_left
  rcases hown.2 with ⟨rfl, rfl⟩ | ⟨g, cap, cur, rfl, hbg, hg, hnc, hcm, hcs, htake⟩
  · have hx : xs = [] := List.eq_nil_of_length_eq_zero (by simpa using hown.1)
    subst hx
    by_cases hm0 : m = 0
    · subst hm0
      have hn : news = [] := List.eq_nil_of_length_eq_zero (by simpa using hl)
      subst hn
      refine ⟨.slice none 0 0, w, ?_, World.ownsRow_nil w 0 e i.size, ⟨⟨rfl, rfl, rfl, Nat.le_refl _, fun _ _ _ => rfl⟩, Nat.le_refl _⟩, .inl rfl⟩
      rcases hs with hs | ⟨kn, hk, rfl, _⟩
      · exact run_append_nothing w t tx ty e i ht hi none 0 0 (Nat.le_refl _) x hs
      · have hw : IntKind.i64.wrap (0 : Int) = 0 := by rw [IntKind.wrap_i64]; omega
        simp [Builtin.append_, run_underlying ht, run_underlying hk, sizeOf, typeInfo, hi, asInt, asIntOf, hw]
    · have hr := app_grow (w := w) (ty := ty) ht hi hz hzs hby h0 hs (base := none) (sLen := 0) (sCap := 0) (olds := []) (by simp [Builtin.firstCells]) (by omega) (Nat.le_refl _) (by omega)
      have hgr := grown 0 (by omega) (Value.ownBlock (.slice none 0 0))
      simp only [Nat.zero_add, List.nil_append] at hgr hr ⊢
      exact ⟨_, _, hr, hgr.1, hgr.2, .inr rfl⟩
  · by_cases hroom : n + m ≤ cap
    · have hfit : n * i.size + news.length ≤ cur.size := by rw [hl, hcs, ← Nat.add_mul]; exact Nat.mul_le_mul_right _ hroom
      have hr := app_room (w := w) (ty := ty) ht hi hz hzs hby h0 hs h1 hg hroom hfit hm
      refine ⟨_, _, hr, ⟨hlen, .inr ⟨g, cap, _, rfl, hbg, setRow_heap w g cur _ e _ hg, hroom, hcm, ?_, ?_⟩⟩, ⟨⟨rfl, rfl, rfl, by simp, fun k _ hk => setRow_other w g k _ (fun e => hk (by simp [Value.ownBlock, e]))⟩, Nat.le_refl _⟩, .inl rfl⟩
      · simp only [List.size_toArray, List.length_append, List.length_take, List.length_drop, Array.length_toList]
        omega
      · rw [htake, ← hlen]
        exact List.take_left
    · have holds : ∀ j u, xs[j]? = some u → w.cell? ((⟨g, 0, none⟩ : Addr).add j) = some u := hown.cells (g := g) rfl
      have hr := app_grow (w := w) (ty := ty) ht hi hz hzs hby h0 hs (base := some ⟨g, 0, none⟩) (sLen := n) (sCap := cap) (olds := xs) (run_firstCells_some w.drew i.size n ⟨g, 0, none⟩ n cap xs hown.1 (by simpa using holds)) (by omega) hnc hm
      have hgr := grown cap (by omega) (Value.ownBlock (.slice (some ⟨g, 0, none⟩) n cap))
      exact ⟨_, _, hr, hgr.1, hgr.2, .inr rfl⟩
end

/-- A row takes the place of another: its block is new, or the other's. -/
theorem Inv.appended {B : Base} {μ : Hd} {S : BSet} {w w' : World} {h : Hp} (I : Inv B μ S w h) {o : Nat} {E : TypeId} {t : Ty} {lt : List t.D} {uo : Value} (ho : h[o]? = some (.row E t lt)) (hm : μ o = some uo)
    (hg : w.grownBy w' uo.ownBlock) (hdrew : w.drawn ≤ w'.drawn) {e : Ty} {l : List e.D} {v' : Value} {xs : List Value} (hown : w'.ownsRow 0 E e.size v' l.length xs) (hv' : v'.ownBlock = uo.ownBlock ∨ v'.ownBlock = some w.heap.size)
    (hl : RepL (Rep S w e) l xs) : Inv B (μ.put h.length v') S w' (h.set o .dead ++ [.row E e l]) ∧ Keeps S S w w' ∧ VRep (μ.put h.length v') S w' (.row h.length) v' := by
  obtain ⟨xo, hwo, _⟩ := I.obj o _ uo ho hm
  have hob : ownB (.row E t lt) uo = uo.ownBlock := ownsRow_owner hwo t lt
  have hSo : ∀ g, uo.ownBlock = some g → ¬ S g ∧ B.ours g := fun g hg => I.out o _ uo g ho hm (by rw [hob]; exact hg)
  have hk : Keeps S S w w' := ⟨fun _ h => h, fun b hb => hg.block b (I.lt b hb) (fun e => (hSo b e.symm).1 hb)⟩
  have hlt : o < h.length := by obtain ⟨h, _⟩ := List.getElem?_eq_some_iff.1 ho; exact h
  have hn : μ h.length = none := I.fresh _ (Nat.le_refl _)
  have key : ∀ {i : Nat} {x : Ob} {u : Value}, (h.set o .dead ++ [.row E e l])[i]? = some x → μ.put h.length v' i = some u → (i = h.length ∧ x = .row E e l ∧ u = v') ∨ (i ≠ h.length ∧ μ i = some u ∧ (x = .dead ∨ (i ≠ o ∧ h[i]? = some x))) := by
    intro i x u h1 h2
    rcases get_snoc h1 with ⟨l1, e1⟩ | ⟨l1, rfl⟩
    · simp only [List.length_set] at l1
      rcases Hd.put_get h2 with ⟨rfl, _⟩ | ⟨hne, h2'⟩
      · omega
      · refine .inr ⟨hne, h2', ?_⟩
        rcases get_set e1 with ⟨rfl, rfl, _⟩ | ⟨hne2, e1'⟩
        · exact .inl rfl
        · exact .inr ⟨hne2, e1'⟩
    · simp only [List.length_set] at l1
      rcases Hd.put_get h2 with ⟨_, rfl⟩ | ⟨hne, h2'⟩
      · exact .inl ⟨l1, rfl, rfl⟩
      · exact absurd l1 hne
  have own' : ∀ {b : Nat}, ownB (.row E e l) v' = some b → (uo.ownBlock = some b ∨ b = w.heap.size) := by
    intro b hb
    rw [ownsRow_owner hown e l] at hb
    rcases hv' with h | h
    · exact .inl (by rw [← h]; exact hb)
    · rw [h] at hb; cases hb; exact .inr rfl
  have notown : ∀ {i : Nat} {x : Ob} {u : Value} {b : Nat}, i ≠ o → h[i]? = some x → μ i = some u → ownB x u = some b → uo.ownBlock ≠ some b ∧ b ≠ w.heap.size := by
    intro i x u b hio h1 h2 h3
    refine ⟨fun hb => hio (I.sep i o x _ u uo b h1 ho h2 hm h3 (by rw [hob]; exact hb)), ?_⟩
    have := (I.obj i x u h1 h2).lt h3
    omega
  refine ⟨⟨⟨hg.os.trans I.base.os, hg.tape.trans I.base.tape, hg.output.trans I.base.output, Nat.le_trans I.base.size hg.size, fun k hk' hA => ?_, Nat.le_trans I.base.drew hdrew⟩, fun i x h1 h2 => ?_, fun i hi => ?_, fun i x u h1 h2 => ?_, fun i i' x x' u u' b h1 h2 h3 h4 h5 h6 => ?_, fun i x u b h1 h2 h3 => ?_, fun b hb => Nat.lt_of_lt_of_le (I.lt b hb) hg.size, I.sub⟩, hk, ?_⟩
  · refine (hg.block k (Nat.lt_of_lt_of_le hk' I.base.size) ?_).trans (I.base.same k hk' hA)
    intro hb
    rcases (hSo k hb.symm).2 with h | h
    · omega
    · exact hA h
  · by_cases hih : i = h.length
    · subst hih; exact ⟨v', Hd.put_same⟩
    · rcases get_snoc h1 with ⟨l1, e1⟩ | ⟨l1, rfl⟩
      · rcases get_set e1 with ⟨rfl, rfl, _⟩ | ⟨hne2, e1'⟩
        · exact absurd rfl h2
        · obtain ⟨u, hu⟩ := I.dom i x e1' h2
          exact ⟨u, Hd.put_le hn _ _ hu⟩
      · simp only [List.length_set] at l1; exact absurd l1 hih
  · simp only [List.length_append, List.length_set, List.length_singleton] at hi
    unfold Hd.put
    rw [if_neg (by omega)]
    exact I.fresh i (by omega)
  · rcases key h1 h2 with ⟨rfl, rfl, rfl⟩ | ⟨hne, h2', rfl | ⟨hio, h1'⟩⟩
    · exact ⟨xs, hown, RepL.mono (fun x c => Rep.keep hk e x c) _ _ hl⟩
    · trivial
    · refine (I.obj i x u h1' h2').keep (Hd.put_le hn) hk fun b hb => hg.block b ((I.obj i x u h1' h2').lt hb) fun hb' => ?_
      exact (notown hio h1' h2' hb).1 hb'.symm
  · rcases key h1 h3 with ⟨rfl, rfl, rfl⟩ | ⟨hne, h3', rfl | ⟨hio, h1'⟩⟩
    · rcases key h2 h4 with ⟨rfl, rfl, rfl⟩ | ⟨hne2, h4', rfl | ⟨hio2, h2'⟩⟩
      · rfl
      · simp [ownB] at h6
      · exfalso
        obtain ⟨p1, p2⟩ := notown hio2 h2' h4' h6
        rcases own' h5 with h | h
        · exact p1 h
        · exact p2 h
    · simp [ownB] at h5
    · rcases key h2 h4 with ⟨rfl, rfl, rfl⟩ | ⟨hne2, h4', rfl | ⟨hio2, h2'⟩⟩
      · exfalso
        obtain ⟨p1, p2⟩ := notown hio h1' h3' h5
        rcases own' h6 with h | h
        · exact p1 h
        · exact p2 h
      · simp [ownB] at h6
      · exact I.sep _ _ _ _ _ _ b h1' h2' h3' h4' h5 h6
  · rcases key h1 h2 with ⟨rfl, rfl, rfl⟩ | ⟨hne, h2', rfl | ⟨hio, h1'⟩⟩
    · rcases own' h3 with h | h
      · exact hSo b h
      · subst h
        exact ⟨fun hs => by have := I.lt _ hs; omega, .inl I.base.size⟩
    · simp [ownB] at h3
    · exact I.out i x u b h1' h2' h3
  · simp only [VRep]
    refine ⟨Hd.put_same, ?_⟩
    rcases hown.2 with ⟨rfl, _⟩ | ⟨g, cap, cur, rfl, _⟩
    · exact ⟨_, _, _, rfl⟩
    · exact ⟨_, _, _, rfl⟩

end X
end Go.Proofs.YtjnfmjeiceiciaaGreat

/-
Operations that write: the theorem.
-/
namespace Go.Proofs.YtjnfmjeiceiciaaGreat
namespace X
open Go Go.RowKit
set_option linter.unusedVariables false
set_option linter.unusedSimpArgs false
set_option linter.unnecessarySimpa false
set_option linter.unusedSectionVars false

theorem byteCells_rep {S : BSet} {w : World} : ∀ b : List UInt8, RepL (Rep S w (.int .u8)) (b.map fun c => (c.toNat : Int)) (byteCells ⟨b.toArray⟩)
  | [] => by simp [byteCells, RepL]
  | c :: b => by
    have := byteCells_rep (S := S) (w := w) b
    simp only [byteCells] at this ⊢
    exact ⟨[.int .u8 c.toNat], _, rfl, rfl, this⟩

theorem cellsOne {S : BSet} {w : World} {e : Ty} (l : List e.D) (xs : List Value) (h : RepL (Rep S w e) l xs) : ∀ x ∈ xs, x.oneCell' = true := RepL.one l xs h

theorem zeroCells_made (z : Array Value) (n : Nat) : Builtin.zeroCells z n = madeCells z (n * z.size) := rfl

/-- What is appended: its elements. -/
theorem srcOf_sound {P : Program} {tt : TypeId → TI} (ht : TabOK P tt) {B : Base} {μ : Hd} {S : BSet} {w : World} {h : Hp} (I : Inv B μ S w h) {e : Ty} {x : V} {ux : Value} {m : List e.D} {tx : TypeId} {z : Value} (hz : Rep S w e e.zero z.cells.toList) (hr : srcOf h e x = some m)
    (hb : srcB (tt tx) x = true) (hx : VRep μ S w x ux) (hzk : zerosOk x = true) : ∃ news, AppSrc P e.size z tx ux m.length news w ∧ RepL (Rep S w e) m news := by
  have slices : ∀ E' e', tt tx = .d (.slice E' e') → rowOf h e x = some m → ∃ news, AppSrc P e.size z tx ux m.length news w ∧ RepL (Rep S w e) m news := by
    intro E' e' hT hrow
    obtain ⟨hu, _⟩ := tyB_slice (ht.d hT)
    obtain ⟨a, n, c, xs, rfl, rfl, hnc, hl, hc⟩ := rowOf_rep I hrow hx
    have hlen := RepL.len (fun x c hx => Rep.len e x c hx) _ _ hl
    by_cases hm : m = []
    · subst hm
      simp only [RepL] at hl
      subst hl
      refine ⟨[], .inl ?_, rfl⟩
      cases a with
      | none => exact Src.ofNil w hu c
      | some ad => exact Src.ofSlice w hu ad 0 c [] (by simp) (by simp) (by simp)
    · rcases hc with hc | ⟨ad, rfl, hc, _, _⟩
      · exact absurd hc hm
      · exact ⟨xs, .inl (Src.ofSlice w hu ad _ c xs hlen hc (RepL.one _ _ hl)), hl⟩
  unfold srcB at hb
  split at hb
  · rename_i k n hT
    simp only [srcOf, Option.some.injEq] at hr
    subst hr
    have hn : @LE.le Int _ 0 n := by simpa [zerosOk] using hzk
    have hes : e.size = z.cells.size := by rw [← Array.length_toList]; exact (Rep.len e _ _ hz).symm
    refine ⟨(Builtin.zeroCells z.cells (n : Int).toNat).toList, .inr ⟨_, tyB_int (ht.d hT), ?_, by rw [List.length_replicate]⟩, ?_⟩
    · rw [vrep_int.1 hx, List.length_replicate]
      congr 1
      exact (Int.toNat_of_nonneg hn).symm
    · rw [zeroCells_made, ← hes]
      exact made_rep hz _
  · rename_i s hT
    simp only [srcOf] at hr
    split at hr
    · rename_i g
      subst g
      cases hr
      refine ⟨byteCells ⟨s.toArray⟩, .inl ?_, byteCells_rep s⟩
      rw [vrep_str.1 hx, List.length_map]
      exact Src.ofString w (tyB_str (ht.d hT)) ⟨s.toArray⟩
    · cases hr
  · cases hb
  · cases hb
  · rename_i E' e' hT hni hns
    refine slices E' e' hT ?_
    unfold srcOf at hr
    split at hr
    · rename_i n; exact absurd rfl (hni _ n)
    · rename_i b; exact absurd rfl (hns b)
    · exact hr
  · cases hb

/-- The row onto which is appended. -/
theorem append_sound {P : Program} {tt : TypeId → TI} (ht : TabOK P tt) {B : Base} {μ : Hd} {S : BSet} {w : World} {h : Hp} (I : Inv B μ S w h) {t tx ty E : TypeId} {el : Ty} (hT : tt t = .d (.slice E el)) (h0 : el.size ≠ 0) {s x : V} {us ux : Value}
    (hb : srcB (tt tx) x = true) (hs : VRep μ S w s us) (hx : VRep μ S w x ux) {v : V} {h' : Hp} (hr : (appendV E el s x h).run = some (v, h')) :
    ∃ u w' μ' S', (Builtin.append_ #[t, tx] ty #[us, ux]).run P w = .ok u w' ∧ DoSt B μ S w v h' u w' μ' S' := by
  obtain ⟨hu, hel⟩ := tyB_slice (ht.d hT)
  obtain ⟨i, z, hi, hsz, hby, hz, _, hzr, _⟩ := zero_of hel
  unfold appendV at hr
  split at hr
  · rename_i l m hl hm
    rcases Tr.run_ite hr with ⟨hc, hq⟩ | ⟨_, hq⟩
    · clear hr
      simp only [Bool.and_eq_true, decide_eq_true_eq] at hc
      obtain ⟨hc1, hc2⟩ := hc
      simp only [maxRow] at hc1
      obtain ⟨news, hsrc, hnews⟩ := srcOf_sound (P := P) ht I (hzr S w) hm hb hx hc2
      have hn1 := RepL.one _ _ hnews
      have hzs : z.cells.size = i.size := by rw [hsz, ← Array.length_toList]; exact Rep.len el _ _ (hzr S w)
      rw [← hsz] at hsrc
      have h0' : i.size ≠ 0 := by rw [hsz]; exact h0
      -- onto a row of one's own
      have fin : ∀ {o : Nat} {t' : Ty} {lt : List t'.D} {uo : Value} {xs : List Value}, h[o]? = some (.row E t' lt) → μ o = some uo → us.ownBlock = uo.ownBlock → w.ownsRow 0 E i.size us l.length xs → RepL (Rep S w el) l xs →
          ∃ u w' μ' S', (Builtin.append_ #[t, tx] ty #[us, ux]).run P w = .ok u w' ∧ DoSt B μ S w (.row h.length) (h.set o .dead ++ [.row E el (l ++ m)]) u w' μ' S' := by
        intro o t' lt uo xs ho hmo hob hown hlx
        obtain ⟨v', w', hrun, hown', ⟨hg, hdrew⟩, hv'⟩ := app_own (ty := ty) hu hi hz hzs hby h0' hown hsrc hn1 hc1
        rw [hob] at hg hv'
        rw [hsz] at hown'
        rw [← List.length_append] at hown'
        obtain ⟨I', k, hrep⟩ := I.appended ho hmo hg hdrew hown' hv' (RepL.app _ _ _ _ hlx hnews)
        exact ⟨v', w', _, S, hrun, ⟨Hd.put_le (I.fresh _ (Nat.le_refl _)), k⟩, I', hrep⟩
      cases s with
      | nils =>
        simp only [rowOf, Option.some.injEq] at hl
        subst hl
        cases hq
        simp only [VRep] at hs
        subst hs
        obtain ⟨v', w', hrun, hown', ⟨hg, hdrew⟩, hv'⟩ := app_own (ty := ty) hu hi hz hzs hby h0' (World.ownsRow_nil w 0 E i.size) hsrc hn1 (by simpa using hc1)
        simp only [Nat.zero_add, List.nil_append] at hown' ⊢
        rw [hsz] at hown'
        have hmore : More w w' := ⟨hg.os, hg.tape, hg.output, hg.size, fun k hk => hg.block k hk (by simp [Value.ownBlock]), hdrew⟩
        have ho : ORep (μ.put h.length v') S w' (.row E el m) v' := ⟨news, hown', RepL.mono (fun x c => Rep.keep (hmore.keeps I.lt) el x c) _ _ hnews⟩
        have st := NewSt.one I hmore (v := .row h.length) (u := v') ho (fun b hb => by
          rw [ownsRow_owner hown' el m] at hb
          rcases hv' with h | h
          · rw [h] at hb; cases hb
          · rw [h] at hb; cases hb; exact Nat.le_refl _) (by
            simp only [VRep]
            refine ⟨Hd.put_same, ?_⟩
            rcases hown'.2 with ⟨rfl, _⟩ | ⟨g, cap, cur, rfl, _⟩
            · exact ⟨_, _, _, rfl⟩
            · exact ⟨_, _, _, rfl⟩)
        exact ⟨v', w', _, S, hrun, ⟨st.le, hmore.keeps I.lt⟩, st.inv, st.rep⟩
      | row o =>
        simp only at hq
        split at hq
        · rename_i E' t' lt ho
          split at hq
          · rename_i hE
            subst hE
            cases hq
            simp only [VRep] at hs
            obtain ⟨xs, hw, hlx⟩ := I.obj o _ _ ho hs.1
            simp only [rowOf, ho] at hl
            split at hl
            · rename_i hte
              subst hte
              cases hl
              rw [← hsz] at hw
              exact fin ho hs.1 rfl hw hlx
            · cases hl
          · cases hq
        · cases hq
      | sub o e0 lo hi' =>
        simp only at hq
        split at hq
        · rename_i E' t' lt ho
          split at hq
          · rename_i hE
            obtain ⟨hlo, rfl⟩ := hE
            subst hlo
            cases hq
            simp only [VRep] at hs
            obtain ⟨a0, n0, c0, p0, hmo, ha0, k1, k2, k3, k4, hus, k6, k7⟩ := hs
            have hp := k7 trivial
            clear k7 k6
            obtain ⟨xs, hw, hlx⟩ := I.obj o _ _ ho hmo
            simp only [rowOf, ho] at hl
            split at hl
            · rename_i hte
              split at hl
              · rename_i h0e
                subst hte
                cases hl
                subst hp
                simp only [Int.toNat_zero, Nat.sub_zero] at hus
                simp only [Int.toNat_zero, List.drop_zero] at *
                have hlen : (List.take hi'.toNat lt).length = hi'.toNat := by
                  obtain ⟨a1, c1, he1, _, _⟩ := I.head (.inl ho) hmo
                  cases he1
                  rw [List.length_take]; omega
                refine fin ho hmo (by rw [hus]; cases p0 <;> rfl) (xs := xs.take (hi'.toNat * t'.size)) ?_ (RepL.take (fun x c hx => Rep.len t' x c hx) _ _ _ hlx)
                rw [hlen, hsz, hus]
                rcases hw.2 with ⟨hn, hz0⟩ | ⟨g, cap, cur, hn, hz0, hgg, hnc, hcm, hcs, htake⟩
                · cases hn
                  have : hi'.toNat = 0 := by omega
                  rw [this]
                  exact ⟨by simp, .inl ⟨rfl, rfl⟩⟩
                · cases hn
                  have hle : hi'.toNat ≤ lt.length := by omega
                  refine ⟨by rw [List.length_take, hw.1]; exact Nat.min_eq_left (Nat.mul_le_mul_right _ hle), .inr ⟨g, c0, cur, rfl, hz0, hgg, by omega, hcm, hcs, ?_⟩⟩
                  rw [← htake, List.take_take, Nat.min_eq_left (Nat.mul_le_mul_right _ hle)]
              · cases hl
            · cases hl
          · cases hq
        · cases hq
      | _ => cases hq
    · cases hq
  · cases hr

/-- 'clear' of a part of a row. -/
theorem clear_sound {P : Program} {tt : TypeId → TI} (ht : TabOK P tt) {B : Base} {μ : Hd} {S : BSet} {w : World} {h : Hp} (I : Inv B μ S w h) {t ty E : TypeId} {e : Ty} (hT : tt t = .d (.slice E e)) {o : Nat} {lo hi : Int} {l : List e.D} {u : Value} (hs : VRep μ S w (.sub o e lo hi) u)
    (ho : h[o]? = some (.row E e l)) (h0 : 0 ≤ lo) (h1 : lo ≤ hi) (h2 : hi ≤ (l.length : Int)) {argTypes : Array TypeId} {args : Array Value} (hat : argTypes[0]? = some t) (ha : args[0]? = some u) :
    ∃ w', (Builtin.clear_ argTypes ty args).run P w = .ok (.tuple #[]) w' ∧ Step B μ μ S S w w' ∧ Inv B μ S w' (h.set o (.row E e (l.take lo.toNat ++ List.replicate (hi.toNat - lo.toNat) e.zero ++ l.drop hi.toNat))) := by
  obtain ⟨hu, hel⟩ := tyB_slice (ht.d hT)
  obtain ⟨i, z, hi', hsz, hby, hz, _, hzr, hz1⟩ := zero_of hel
  simp only [VRep] at hs
  obtain ⟨a0, n0, c0, p0, hm, ha0, k1, k2, k3, k4, rfl, k6, k7⟩ := hs
  obtain ⟨xs, hw, hlx⟩ := I.obj o _ _ ho hm
  by_cases hz0 : hi.toNat - lo.toNat = 0
  · have e1 : l.take lo.toNat ++ List.replicate (hi.toNat - lo.toNat) e.zero ++ l.drop hi.toNat = l := by
      rw [hz0, List.replicate_zero, List.append_nil, show hi.toNat = lo.toNat by omega, List.take_append_drop]
    rw [e1]
    have e2 : h.set o (.row E e l) = h := by
      apply List.ext_getElem?
      intro j
      rw [List.getElem?_set]
      split
      · rename_i hj; subst hj
        split
        · exact ho.symm
        · rename_i hnlt; rw [List.getElem?_eq_none (by omega)]
      · rfl
    rw [e2]
    refine ⟨w, ?_, Step.refl B μ S w, I⟩
    rw [hz0] at ha
    cases p0 <;> simp [Builtin.clear_, hat, ha, run_underlying hu]
  · rcases hw.2 with ⟨hn, hz'⟩ | ⟨g, cap, cur, hn, _, hgg, hnc, hcm, hcs, htake⟩
    · cases hn; omega
    · cases hn
      have hp := k6 (by omega)
      simp only [Option.map_some, add_lit, Nat.zero_add] at hp
      subst hp
      have hzs : e.size = z.cells.size := by rw [← Array.length_toList]; exact (Rep.len e _ _ (hzr S w)).symm
      have hmade := made_rep (hzr S w) (hi.toNat - lo.toNat)
      have hml := RepL.len (fun x c hx => Rep.len e x c hx) _ _ hmade
      have hm1 := RepL.one _ _ hmade
      rw [List.length_replicate] at hml
      have hle : lo.toNat * e.size + (hi.toNat - lo.toNat) * e.size ≤ l.length * e.size := by rw [← Nat.add_mul]; exact Nat.mul_le_mul_right _ (by omega)
      have hcl : l.length * e.size ≤ cur.toList.length := by rw [Array.length_toList (xs := cur), hcs]; exact Nat.mul_le_mul_right _ hnc
      have hst := run_storeCells_at P g (lo.toNat * e.size) E (madeCells z.cells ((hi.toNat - lo.toNat) * e.size)).toList 0 cur w hgg (by rw [hml]; simp at hcl; omega) hm1
      simp only [Nat.add_zero] at hst
      rw [hml] at hst
      obtain ⟨I', k⟩ := I.setRow (ob' := .row E e (l.take lo.toNat ++ List.replicate (hi.toNat - lo.toNat) e.zero ++ l.drop hi.toNat)) (g := g) (cs := (cur.toList.take (lo.toNat * e.size) ++ (madeCells z.cells ((hi.toNat - lo.toNat) * e.size)).toList ++ cur.toList.drop (lo.toNat * e.size + (hi.toNat - lo.toNat) * e.size)).toArray) ho hm rfl (.inl rfl) fun k => by
        have hnl' : (l.take lo.toNat ++ List.replicate (hi.toNat - lo.toNat) e.zero ++ l.drop hi.toNat).length = l.length := by simp; omega
        have hk := fun x c (hx : Rep S w e x c) => Rep.len e x c hx
        have hrep : RepL (Rep S w e) (l.take lo.toNat ++ List.replicate (hi.toNat - lo.toNat) e.zero ++ l.drop hi.toNat) (xs.take (lo.toNat * e.size) ++ (madeCells z.cells ((hi.toNat - lo.toNat) * e.size)).toList ++ xs.drop (hi.toNat * e.size)) :=
          RepL.app _ _ _ _ (RepL.app _ _ _ _ (RepL.take hk _ _ _ hlx) hmade) (RepL.drop hk _ _ _ hlx)
        have hmid := cut_take cur.toList (madeCells z.cells ((hi.toNat - lo.toNat) * e.size)).toList (lo.toNat * e.size) (l.length * e.size) (by rw [hml]; exact hle) hcl
        rw [hml, htake] at hmid
        have e3 : lo.toNat * e.size + (hi.toNat - lo.toNat) * e.size = hi.toNat * e.size := by rw [← Nat.add_mul]; congr 1; omega
        rw [← e3] at hrep
        refine ⟨xs.take (lo.toNat * e.size) ++ (madeCells z.cells ((hi.toNat - lo.toNat) * e.size)).toList ++ xs.drop (lo.toNat * e.size + (hi.toNat - lo.toNat) * e.size), ⟨?_, .inr ⟨g, c0, _, by rw [hnl'], Nat.zero_le _, setRow_heap w g cur _ _ _ hgg, by rw [hnl']; exact hnc, hcm, ?_, by rw [hnl']; exact hmid⟩⟩, ?_⟩
        · rw [hnl']
          have := RepL.len hk _ _ hrep
          rw [hnl'] at this
          exact this
        · rw [← hcs]; simp [size_madeCells]; simp at hcl; omega
        · exact RepL.mono (fun x c => Rep.keep k e x c) _ _ hrep
      refine ⟨_, ?_, ⟨Hd.le.refl μ, k⟩, I'⟩
      have hzc : (Builtin.zeroCells z.cells (hi.toNat - lo.toNat)).toList = (madeCells z.cells ((hi.toNat - lo.toNat) * e.size)).toList := by rw [zeroCells_made, hzs]
      obtain ⟨n1, hn1⟩ : ∃ n1, hi.toNat - lo.toNat = n1 + 1 := ⟨hi.toNat - lo.toNat - 1, by omega⟩
      rw [hn1] at hzc hst ha
      rw [hn1]
      simp only [Builtin.clear_, hat, ha, Sem.run_bind, run_underlying hu, Result.andThen_ok, zeroValue, typeInfo, run_program, hi', hz, Sem.run_pure, hzc, hst]

theorem opW_sound {P : Program} {tb : Tabs} (ht : TabOK P tb.tt) {B : Base} {μ : Hd} {S : BSet} {w : World} {h : Hp} (I : Inv B μ S w h) {e : Env} {a : Act} (he : VRepL μ S w e a.tmps.toList) {o : Oper} {v : V} {h' : Hp}
    (hr : (opW tb o.op e h).run = some (v, h')) : OpDoes P B o a μ S w v h' := by
  obtain ⟨dst, op, type, pos, after, guard⟩ := o
  simp only at hr
  have val : ∀ {s : Sem Value} {u : Value} {w' : World}, s.run P w = .ok u w' → (do pure (Next.value (← s)) : Sem Next).run P w = .ok (.value u) w' := fun h => by simp [h]
  cases op with
  | buildSlice T n ps =>
    simp only [opW] at hr
    split at hr
    · rename_i E el hT
      split at hr
      · rename_i hc
        split at hr
        · rename_i l h1 hb
          cases hr
          obtain ⟨S', cells, I', k, _, hrep, hlen, hrun⟩ := buildSlice_run (a := a) I (ht.d hT) (fz := true) he hc (fun h => by cases h) hb
          have hm : l.length ≤ maxLen := by rw [hlen]; have := hc.2.1; simp only [maxLen]; omega
          have st := NewSt.row I' (E := E) hrep hm
          rw [hlen] at st
          exact OpDoes.of_run (val hrun) ⟨⟨st.le, k.trans (st.more.keeps I'.lt)⟩, st.inv, st.rep⟩
        · cases hr
      · cases hr
    · cases hr
  | store T p x =>
    simp only [opW] at hr
    rw [Tr.run_map] at hr
    cases hq : (storeV tb.tt T (getV e p) (getV e x) h).run with
    | none => rw [hq] at hr; cases hr
    | some h1 =>
      rw [hq] at hr
      cases hr
      obtain ⟨S', w', hrun, hst, I'⟩ := storeV_sound ht I hq (getV_rep he p) (getV_rep he x)
      exact OpDoes.of_skip (w' := w') (by simp [execOp, hrun]) ⟨hst, I', by simp [VRep]⟩
  | call c =>
    obtain ⟨callee, args, argTypes⟩ := c
    cases callee with
    | value f => simp [opW, Tr.run] at hr
    | invoke r m => simp [opW, Tr.run] at hr
    | builtin b =>
      cases b with
      | append =>
        simp only [opW] at hr
        split at hr
        · rename_i t tx s x hat ha
          split at hr
          · rename_i E el hT
            split at hr
            · rename_i hc
              obtain ⟨u, w', μ', S', hrun, hst⟩ := append_sound (ty := type) ht I hT hc.1 hc.2 (getV_rep he s) (getV_rep he x) hr
              obtain ⟨cs, hcs⟩ := execBuiltin (P := P) (w := w) _ ⟨dst, _, type, pos, after, guard⟩ args argTypes a rfl
              have e1 : argTypes = #[t, tx] := Array.ext' (by simpa using hat)
              have e2 : args = #[s, x] := Array.ext' (by simpa using ha)
              subst e1; subst e2
              refine OpDoes.of_run (w' := w') (u := u) ?_ hst
              rw [hcs]
              simp only [builtin]
              exact val (by simpa using hrun)
            · cases hr
          · cases hr
        · cases hr
      | clear =>
        simp only [opW] at hr
        split at hr
        · rename_i E' e' o u lo hi hT hg
          split at hr
          · rename_i E el l ho
            split at hr
            · cases hr
            · rename_i hne
              simp only [not_or, ne_eq, Decidable.not_not] at hne
              obtain ⟨rfl, h2, h3⟩ := hne
              subst h2; subst h3
              rcases Tr.run_ite hr with ⟨hb, hr⟩ | ⟨_, hr⟩
              · cases hr
                simp only [inR, Bool.and_eq_true, decide_eq_true_eq] at hb
                obtain ⟨⟨hb0, hb1⟩, hb2⟩ := hb
                obtain ⟨t, ht0, htt⟩ := tt0 hT
                obtain ⟨x, hx0, hgx⟩ := argD0 hg (by simp)
                have hx := getV_rep he x
                rw [hgx] at hx
                obtain ⟨w', hrun, hst, I'⟩ := clear_sound (ty := type) ht I htt hx ho hb0 hb1 hb2 ht0 (args := args.map a.eval) (by simp [hx0])
                obtain ⟨cs, hcs⟩ := execBuiltin (P := P) (w := w) _ ⟨dst, _, type, pos, after, guard⟩ args argTypes a rfl
                refine OpDoes.of_run (w' := w') (u := .tuple #[]) ?_ ⟨hst, I', ?_⟩
                · rw [hcs]
                  simp only [builtin]
                  exact val hrun
                · simp only [VRep]
                  exact ⟨#[], rfl, by simp [VRepL]⟩
              · cases hr
          · cases hr
        · cases hr
      | _ => simp [opW, Tr.run] at hr
  | _ => simp [opW, Tr.run] at hr

end X
end Go.Proofs.YtjnfmjeiceiciaaGreat

/-
Contracts: what a callee answers; arguments as data.
-/
namespace Go.Proofs.YtjnfmjeiceiciaaGreat
namespace X
open Go Go.RowKit
set_option linter.unusedVariables false
set_option linter.unusedSimpArgs false
set_option linter.unnecessarySimpa false
set_option linter.unusedSectionVars false

/-- What a call answers; its own rows are numbered from n on. -/
def Ans (B : Base) (s : Sig) (n : Nat) (io : List V) (h0 : Hp) (μ : Hd) (r : s.r.D) (u : Value) (w' : World) : Prop :=
  if s.io then ∃ S' h1, u = .tuple #[] ∧ Keeps B.S0 S' B.W w' ∧ setIO s.r r io (h0.map fun _ => Ob.dead) = some h1 ∧ Inv B μ S' w' h1
  else ∃ μ' S', Keeps B.S0 S' B.W w' ∧ (∀ k, k < n → μ' k = none) ∧ Inv B μ' S' w' (List.replicate n .dead ++ (inject s.r r s.own n).2.2) ∧ VRep μ' S' w' (resV s.r s.multi (inject s.r r s.own n).1) u

/-- A function that can be called. -/
def Callable (P : Program) (f : FuncId) : Prop := ∃ fn, P.funcs[f]? = some fn ∧ (fn.name == "runtime.NumGoroutine") = false ∧ fn.body.isNone = false

/-- A contract holds. -/
def Sound (P : Program) (f : FuncId) (sh : List AS) (s : Sig) : Prop :=
  Callable P f ∧ ∀ (x : s.p.D) (r : s.r.D) (n : Nat) (B : Base) (μ : Hd) (args : Array Value), s.f x = some r → Inv B μ B.S0 B.W (argsV sh s.p x []).2 → VRepL μ B.S0 B.W (argsV sh s.p x []).1 args.toList →
    Calls P f args B.W fun e w' => ∃ u, e = .returned u ∧ Ans B s n (ioV sh (argsV sh s.p x []).1) (argsV sh s.p x []).2 μ r u w'

theorem run_call {P : Program} {w : World} {f : FuncId} (hc : Callable P f) {o : Oper} {fo : Operand} {args : Array Operand} {argTypes : Array TypeId} {a : Act} (ho : o.op = .call { callee := .value fo, args, argTypes }) {cs : Array Value} (hf : a.eval fo = .func (.func f) #[] cs) :
    (execOp a.eval o).run P w = .ok (.enter f (args.map a.eval ++ cs)) w := by
  obtain ⟨fn, h1, h2, h3⟩ := hc
  unfold execOp
  simp only [ho]
  simp only [resolve, hf, Deferred.ofValue, invoke, callFunc, Sem.run_bind, Sem.run_pure, Result.andThen_ok, run_program, h1, h2, h3, Bool.false_eq_true, if_false, Array.empty_append]

/-- A call, by its contract. -/
theorem call_wp {P : Program} {w : World} {f : FuncId} {sh : List AS} {s : Sig} (hS : Sound P f sh s) {o : Oper} {fo : Operand} {args : Array Operand} {argTypes : Array TypeId} {a : Act} (ho : o.op = .call { callee := .value fo, args, argTypes }) {cs : Array Value}
    (hf : a.eval fo = .func (.func f) #[] cs) {x : s.p.D} {r : s.r.D} (n : Nat) (hx : s.f x = some r) {A S0 : BSet} {μ : Hd} (I : Inv ⟨w, A, S0⟩ μ S0 w (argsV sh s.p x []).2) (hv : VRepL μ S0 w (argsV sh s.p x []).1 (args.map a.eval ++ cs).toList)
    {K : Act → World → Prop} {Q : Exit → Act → World → Prop} (hk : ∀ u w', Ans ⟨w, A, S0⟩ s n (ioV sh (argsV sh s.p x []).1) (argsV sh s.p x []).2 μ r u w' → K (a.put o.dst u) w') : o.wp P a w K Q := by
  unfold Oper.wp
  rw [run_call hS.1 ho hf, Oper.upon_enter]
  refine Calls.mono (hS.2 x r n ⟨w, A, S0⟩ μ _ hx I hv) fun e w' he => ?_
  obtain ⟨u, rfl, hu⟩ := he
  exact hk u w' hu

/-! ### Arguments that are only read -/

theorem derefD_sound {B : Base} {μ : Hd} {S Sx : BSet} {w : World} {h : Hp} (I : Inv B μ S w h) (hsub : ∀ b, S b → Sx b) {cp : Bool} (hcp : cp = true → ∀ b, b < w.heap.size → Sx b) {t : Ty} {v : V} {u : Value} {x : t.D} (hd : derefD cp t h v = some x) (hv : VRep μ S w v u) (μ0 : Hd) :
    VRep μ0 Sx w (.ip t x) u := by
  have hk : Keeps S Sx w w := ⟨hsub, fun _ _ => rfl⟩
  unfold derefD at hd
  split at hd
  · rename_i t' x'
    split at hd
    · rename_i htt
      subst htt
      cases hd
      simp only [VRep] at hv ⊢
      obtain ⟨ad, cs, rfl, hr, hs, hc⟩ := hv
      exact ⟨ad, cs, rfl, Rep.keep hk _ _ _ hr, hsub _ hs, hc⟩
    · cases hd
  · rename_i o off
    split at hd
    · rename_i hcpt
      split at hd
      · rename_i vs ho
        split at hd
        · rename_i hle
          split at hd
          · rename_i x1 h1 hx
            cases hd
            simp only [VRep] at hv
            obtain ⟨g, hm, rfl⟩ := hv
            obtain ⟨g', cs, T, he, hg, hvs, h1c⟩ := I.obj o _ _ ho hm
            cases he
            obtain ⟨_, cs1, us', e2, hr, hv'⟩ := implode_borrow I t _ _ x [] h1 (VRepL.take t.size _ _ (VRepL.drop off _ _ hvs)) hx
            simp only [VRepL] at hv'
            subst hv'
            rw [List.append_nil] at e2
            have hlt : g < w.heap.size := by obtain ⟨h, _⟩ := Array.getElem?_eq_some_iff.1 hg; exact h
            simp only [VRep]
            refine ⟨_, cs1, rfl, Rep.keep ⟨fun b hb => hcp hcpt b hb, fun _ _ => rfl⟩ _ _ _ hr, hcp hcpt g hlt, fun j v hj => ?_⟩
            rw [add_lit, cell_of_row w g _ cs T (0, 0) hg]
            rw [← e2, List.getElem?_take] at hj
            split at hj
            · simpa using hj
            · cases hj
          · cases hd
        · cases hd
      · cases hd
    · cases hd
  · cases hd

theorem one_of_rep {S : BSet} {w : World} {t : Ty} {x : t.D} {cs : List Value} (hr : Rep S w t x cs) (ha : t.isAgg = false) : ∃ y, cs = [y] ∧ y.oneCell' = true := by
  have hl := Rep.len t x cs hr
  have h1 : t.size = 1 := by cases t <;> simp_all [Ty.isAgg, Ty.size]
  rw [h1] at hl
  cases cs with
  | nil => cases hl
  | cons y r => cases r with
    | nil => exact ⟨y, rfl, Rep.one t x _ hr y (by simp)⟩
    | cons _ _ => simp at hl

theorem not_agg {μ : Hd} {S : BSet} {w : World} {v : V} {u : Value} (ha : aggV v = false) (hne : v ≠ .undef) (hv : VRep μ S w v u) : ∀ cs, u ≠ .agg cs := by
  rintro cs rfl
  cases v with
  | undef => exact hne rfl
  | skp => simp only [VRep] at hv; cases hv
  | kb b => simp only [VRep] at hv; cases hv
  | nils => simp only [VRep] at hv; cases hv
  | agg vs => cases ha
  | dat t x =>
    simp only [aggV] at ha
    simp only [VRep] at hv
    obtain ⟨cs', hr, hu⟩ := hv
    obtain ⟨y, rfl, h1⟩ := one_of_rep hr ha
    simp only [mkV, ha, Bool.false_eq_true, if_false, List.headD_cons] at hu
    rw [← hu] at h1
    cases h1
  | ip t x => simp only [VRep] at hv; obtain ⟨_, _, hc, _⟩ := hv; cases hc
  | cp o off => simp only [VRep] at hv; obtain ⟨_, _, hc⟩ := hv; cases hc
  | ep o e i fs => simp only [VRep] at hv; obtain ⟨_, _, _, hc⟩ := hv; cases hc
  | ap o => simp only [VRep] at hv; obtain ⟨_, _, hc⟩ := hv; cases hc
  | row o => simp only [VRep] at hv; obtain ⟨_, _, _, _, hc⟩ := hv; cases hc
  | sub o e lo hi => simp only [VRep] at hv; obtain ⟨_, _, _, _, _, _, _, _, _, _, hc, _⟩ := hv; cases hc
  | fn f vs => simp only [VRep] at hv; obtain ⟨_, hc, _⟩ := hv; cases hc
  | ifc b =>
    simp only [VRep] at hv
    cases b
    · simp only [Bool.false_eq_true, if_false] at hv; obtain ⟨_, _, hc⟩ := hv; cases hc
    · simp only [if_true] at hv; cases hv
  | tup vs => simp only [VRep] at hv; obtain ⟨_, hc, _⟩ := hv; cases hc

/-- What stands for a datum. -/
theorem vrep_of_cells {μ : Hd} {S : BSet} {w : World} {t : Ty} {v : V} {u : Value} {x : t.D} {fz : Bool} {h h' : Hp} (hi : toD fz t v h = some (x, h')) (hag : t.isAgg = aggV v) {S0 : BSet} {w0 : World} {μ0 : Hd} (hv : VRep μ0 S0 w0 v u) (hr : Rep S w t x u.cells.toList) : VRep μ S w (.dat t x) u := by
  simp only [VRep]
  refine ⟨_, hr, ?_⟩
  cases hagg : t.isAgg with
  | true =>
    rw [hagg] at hag
    obtain ⟨cs, rfl⟩ := aggV_agg hag.symm hv
    simp [mkV, hagg, Value.cells]
  | false =>
    rw [hagg] at hag
    have hne : v ≠ .undef := by
      rintro rfl
      exact (toD_known hi).2 .undef (by simp [cellsOf]) rfl
    have hna := not_agg hag.symm hne hv
    have hc : u.cells = #[u] := by
      cases u <;> first | rfl | (rename_i cs; exact absurd rfl (hna cs))
    simp [mkV, hagg, hc]

end X
end Go.Proofs.YtjnfmjeiceiciaaGreat

/-
Arguments as data, by their shapes.
-/
namespace Go.Proofs.YtjnfmjeiceiciaaGreat
namespace X
open Go Go.RowKit
set_option linter.unusedVariables false
set_option linter.unusedSimpArgs false
set_option linter.unnecessarySimpa false
set_option linter.unusedSectionVars false

theorem argsRead {B : Base} {μ : Hd} {S Sx : BSet} {w : World} {h : Hp} (I : Inv B μ S w h) (hsub : ∀ b, S b → Sx b) {cp : Bool} (hcp : cp = true → ∀ b, b < w.heap.size → Sx b) (μ0 : Hd) (h0 : Hp) : ∀ (sh : List AS) (t : Ty) (vs : List V) (us : List Value) (x : t.D) (h' : Hp) (io : List V),
    readsB sh = true → ((∀ b, b < w.heap.size → Sx b) ∨ noRows vs = true) → argsD false cp sh t vs h = some (x, h', io) → VRepL μ S w vs us →
    h' = h ∧ io = [] ∧ VRepL μ0 Sx w (argsV sh t x h0).1 us ∧ (argsV sh t x h0).2 = h0
  | [], t, vs, us, x, h', io, hrd, hm, ha, hv => by
    cases t <;> cases vs <;> simp [argsD] at ha
    obtain ⟨rfl, rfl⟩ := ha
    simp only [VRepL] at hv
    subst hv
    exact ⟨rfl, rfl, by simp [argsV, VRepL], rfl⟩
  | .d :: sh, .pair a b, v :: vs, us, x, h', io, hrd, hm, ha, hv => by
    simp only [readsB] at hrd
    simp only [argsD] at ha
    split at ha
    · rename_i hag
      split at ha
      · rename_i x1 h1 hx
        split at ha
        · rename_i y r hy
          simp only [Option.some.injEq, Prod.mk.injEq] at ha
          obtain ⟨rfl, hr⟩ := ha
          simp only [VRepL] at hv
          obtain ⟨u, us, rfl, hv1, hv2⟩ := hv
          have hrep : h1 = h ∧ Rep Sx w a x1 u.cells.toList := by
            rcases hm with hm | hm
            · obtain ⟨e1, e2⟩ := toD_borrow I hv1 hx
              exact ⟨e1, Rep.keep ⟨hm, fun _ _ => rfl⟩ _ _ _ e2⟩
            · simp only [noRows, Bool.and_eq_true] at hm
              obtain ⟨e1, e2⟩ := toD_in I (.inr hm.1) hv1 hx
              exact ⟨e1, Rep.keep ⟨hsub, fun _ _ => rfl⟩ _ _ _ e2⟩
          obtain ⟨rfl, hrep⟩ := hrep
          obtain ⟨r1, r2⟩ := r
          simp only [Prod.mk.injEq] at hr
          obtain ⟨rfl, rfl⟩ := hr
          obtain ⟨e1, e2, e3, e4⟩ := argsRead I hsub hcp μ0 h0 sh b vs us y _ _ hrd (hm.imp id fun hm => by simp only [noRows, Bool.and_eq_true] at hm; exact hm.2) hy hv2
          refine ⟨e1, e2, ?_, e4⟩
          simp only [argsV, VRepL]
          exact ⟨u, us, rfl, vrep_of_cells hx hag hv1 hrep, e3⟩
        · cases ha
      · cases ha
    · cases ha
  | .ip :: sh, .pair a b, v :: vs, us, x, h', io, hrd, hm, ha, hv => by
    simp only [readsB] at hrd
    simp only [argsD] at ha
    split at ha
    · rename_i x1 hx
      split at ha
      · rename_i y r hy
        simp only [Option.some.injEq, Prod.mk.injEq] at ha
        obtain ⟨rfl, hr⟩ := ha
        simp only [VRepL] at hv
        obtain ⟨u, us, rfl, hv1, hv2⟩ := hv
        obtain ⟨r1, r2⟩ := r
        simp only [Prod.mk.injEq] at hr
        obtain ⟨rfl, rfl⟩ := hr
        obtain ⟨e1, e2, e3, e4⟩ := argsRead I hsub hcp μ0 h0 sh b vs us y _ _ hrd (hm.imp id fun hm => by simp only [noRows, Bool.and_eq_true] at hm; exact hm.2) hy hv2
        refine ⟨e1, e2, ?_, e4⟩
        simp only [argsV, VRepL]
        exact ⟨u, us, rfl, derefD_sound I hsub hcp hx hv1 μ0, e3⟩
      · cases ha
    · cases ha
  | .fn f 0 :: sh, t, [], us, x, h', io, hrd, hm, ha, hv => by
    simp [argsD] at ha
  | .fn f 0 :: sh, t, v0 :: vs, us, x, h', io, hrd, hm, ha, hv => by
    cases v0 with
    | fn g caps =>
      cases caps with
      | nil =>
        simp only [readsB] at hrd
        simp only [argsD] at ha
        split at ha
        · rename_i hfg
          subst hfg
          simp only [VRepL] at hv
          obtain ⟨u, us, rfl, hv1, hv2⟩ := hv
          obtain ⟨e1, e2, e3, e4⟩ := argsRead I hsub hcp μ0 h0 sh t vs us x _ _ hrd (hm.imp id fun hm => by simp only [noRows, Bool.and_eq_true] at hm; exact hm.2) ha hv2
          refine ⟨e1, e2, ?_, e4⟩
          simp only [argsV, VRepL]
          refine ⟨u, us, rfl, ?_, e3⟩
          simp only [VRep] at hv1 ⊢
          obtain ⟨cs, rfl, hcs⟩ := hv1
          exact ⟨cs, rfl, by simpa [VRepL] using hcs⟩
        · cases ha
      | cons _ _ => simp [argsD] at ha
    | _ => simp [argsD] at ha
  | .fn f 1 :: sh, t, [], us, x, h', io, hrd, hm, ha, hv => by
    cases t <;> simp [argsD] at ha
  | .fn f 1 :: sh, t, v0 :: vs, us, x, h', io, hrd, hm, ha, hv => by
    cases t with
    | pair a b =>
      cases v0 with
      | fn g caps =>
        cases caps with
        | nil => simp [argsD] at ha
        | cons v r =>
          cases r with
          | nil =>
            simp only [readsB] at hrd
            simp only [argsD] at ha
            split at ha
            · rename_i hfg
              subst hfg
              split at ha
              · rename_i x1 hx
                split at ha
                · rename_i y r hy
                  simp only [Option.some.injEq, Prod.mk.injEq] at ha
                  obtain ⟨rfl, hr⟩ := ha
                  simp only [VRepL] at hv
                  obtain ⟨u, us, rfl, hv1, hv2⟩ := hv
                  obtain ⟨r1, r2⟩ := r
                  simp only [Prod.mk.injEq] at hr
                  obtain ⟨rfl, rfl⟩ := hr
                  obtain ⟨e1, e2, e3, e4⟩ := argsRead I hsub hcp μ0 h0 sh b vs us y _ _ hrd (hm.imp id fun hm => by simp only [noRows, Bool.and_eq_true] at hm; exact hm.2) hy hv2
                  refine ⟨e1, e2, ?_, e4⟩
                  simp only [argsV, VRepL]
                  refine ⟨u, us, rfl, ?_, e3⟩
                  simp only [VRep] at hv1 ⊢
                  obtain ⟨cs, rfl, hcs⟩ := hv1
                  refine ⟨cs, rfl, ?_⟩
                  simp only [VRepL] at hcs ⊢
                  obtain ⟨u1, r1, e1', hu1, e2'⟩ := hcs
                  exact ⟨u1, r1, e1', derefD_sound I hsub hcp hx hu1 μ0, e2'⟩
                · cases ha
              · cases ha
            · cases ha
          | cons _ _ => simp [argsD] at ha
      | _ => simp [argsD] at ha
    | _ => simp [argsD] at ha
  | .fn f 2 :: sh, t, [], us, x, h', io, hrd, hm, ha, hv => by
    cases t <;> simp [argsD] at ha
  | .fn f 2 :: sh, t, v0 :: vs, us, x, h', io, hrd, hm, ha, hv => by
    cases t with
    | pair a t2 =>
      cases t2 with
      | pair a' b =>
        cases v0 with
        | fn g caps =>
          cases caps with
          | nil => simp [argsD] at ha
          | cons v r =>
            cases r with
            | nil => simp [argsD] at ha
            | cons v' r =>
              cases r with
              | nil =>
                simp only [readsB] at hrd
                simp only [argsD] at ha
                split at ha
                · rename_i hfg
                  subst hfg
                  split at ha
                  · rename_i x1 x2 hx hx2
                    split at ha
                    · rename_i y r hy
                      simp only [Option.some.injEq, Prod.mk.injEq] at ha
                      obtain ⟨rfl, hr⟩ := ha
                      simp only [VRepL] at hv
                      obtain ⟨u, us, rfl, hv1, hv2⟩ := hv
                      obtain ⟨r1, r2⟩ := r
                      simp only [Prod.mk.injEq] at hr
                      obtain ⟨rfl, rfl⟩ := hr
                      obtain ⟨e1, e2, e3, e4⟩ := argsRead I hsub hcp μ0 h0 sh b vs us y _ _ hrd (hm.imp id fun hm => by simp only [noRows, Bool.and_eq_true] at hm; exact hm.2) hy hv2
                      refine ⟨e1, e2, ?_, e4⟩
                      simp only [argsV, VRepL]
                      refine ⟨u, us, rfl, ?_, e3⟩
                      simp only [VRep] at hv1 ⊢
                      obtain ⟨cs, rfl, hcs⟩ := hv1
                      refine ⟨cs, rfl, ?_⟩
                      simp only [VRepL] at hcs ⊢
                      obtain ⟨u1, r1, e1', hu1, u2, r2, e2', hu2, e3'⟩ := hcs
                      exact ⟨u1, r1, e1', derefD_sound I hsub hcp hx hu1 μ0, u2, r2, e2', derefD_sound I hsub hcp hx2 hu2 μ0, e3'⟩
                    · cases ha
                  · cases ha
                · cases ha
              | cons _ _ => simp [argsD] at ha
        | _ => simp [argsD] at ha
      | _ => simp [argsD] at ha
    | _ => simp [argsD] at ha
  | .fn f (n + 3) :: sh, t, vs, us, x, h', io, hrd, hm, ha, hv => by
    simp [argsD] at ha
  | .nil :: sh, t, [], us, x, h', io, hrd, hm, ha, hv => by
    simp [argsD] at ha
  | .nil :: sh, t, v0 :: vs, us, x, h', io, hrd, hm, ha, hv => by
    cases v0 with
    | nils =>
      simp only [readsB] at hrd
      simp only [argsD] at ha
      simp only [VRepL] at hv
      obtain ⟨u, us, rfl, hv1, hv2⟩ := hv
      obtain ⟨e1, e2, e3, e4⟩ := argsRead I hsub hcp μ0 h0 sh t vs us x _ _ hrd (hm.imp id fun hm => by simp only [noRows, Bool.and_eq_true] at hm; exact hm.2) ha hv2
      refine ⟨e1, e2, ?_, e4⟩
      simp only [argsV, VRepL]
      exact ⟨u, us, rfl, by simpa only [VRep] using hv1, e3⟩
    | _ => simp [argsD] at ha
  | .own :: sh, t, vs, us, x, h', io, hrd, hm, ha, hv => by simp [readsB] at hrd
  | .io :: sh, t, vs, us, x, h', io, hrd, hm, ha, hv => by simp [readsB] at hrd
  | .d :: sh, .unit, vs, us, x, h', io, hrd, hm, ha, hv => by simp [argsD] at ha
  | .d :: sh, .int _, vs, us, x, h', io, hrd, hm, ha, hv => by simp [argsD] at ha
  | .d :: sh, .bool, vs, us, x, h', io, hrd, hm, ha, hv => by simp [argsD] at ha
  | .d :: sh, .str, vs, us, x, h', io, hrd, hm, ha, hv => by simp [argsD] at ha
  | .d :: sh, .slice _ _, vs, us, x, h', io, hrd, hm, ha, hv => by simp [argsD] at ha
  | .d :: sh, .pair _ _, [], us, x, h', io, hrd, hm, ha, hv => by simp [argsD] at ha
  | .ip :: sh, .unit, vs, us, x, h', io, hrd, hm, ha, hv => by simp [argsD] at ha
  | .ip :: sh, .int _, vs, us, x, h', io, hrd, hm, ha, hv => by simp [argsD] at ha
  | .ip :: sh, .bool, vs, us, x, h', io, hrd, hm, ha, hv => by simp [argsD] at ha
  | .ip :: sh, .str, vs, us, x, h', io, hrd, hm, ha, hv => by simp [argsD] at ha
  | .ip :: sh, .slice _ _, vs, us, x, h', io, hrd, hm, ha, hv => by simp [argsD] at ha
  | .ip :: sh, .pair _ _, [], us, x, h', io, hrd, hm, ha, hv => by simp [argsD] at ha

end X
end Go.Proofs.YtjnfmjeiceiciaaGreat

/-
Arguments that are handed over.
-/
namespace Go.Proofs.YtjnfmjeiceiciaaGreat
namespace X
open Go Go.RowKit
set_option linter.unusedVariables false
set_option linter.unusedSimpArgs false
set_option linter.unnecessarySimpa false
set_option linter.unusedSectionVars false

/-- Rows that are changed in place: here and there. -/
def IoR (μ μ0 : Hd) (h' : Hp) : List V → List V → Prop
  | [], [] => True
  | v :: vs, v0 :: vs0 => (∃ n, v0 = .row n ∧ ((v = .nils ∧ μ0 n = some (.slice none 0 0)) ∨ ∃ o u, v = .row o ∧ h'[o]? = some .dead ∧ μ o = some u ∧ μ0 n = some u)) ∧ IoR μ μ0 h' vs vs0
  | _, _ => False

/-- The blocks that were handed over. -/
def Given (B : Base) (μ : Hd) (S : BSet) (w : World) (h : Hp) (A : BSet) : Prop := ∀ b, A b → B.ours b ∧ ¬ S b ∧ b < w.heap.size ∧ ¬ Own μ h b

theorem Given.fz {B : Base} {μ : Hd} {S S' : BSet} {w : World} {h h' : Hp} {A : BSet} (g : Given B μ S w h A) (f : Fz μ w S h S' h') : Given B μ S' w h' A := fun b hb => by
  obtain ⟨h1, h2, h3, h4⟩ := g b hb
  refine ⟨h1, fun hs => ?_, h3, fun ho => h4 (f.own b ho)⟩
  rcases f.s b hs with hs | hs
  · exact h2 hs
  · exact h4 hs

/-- The callee's heap, when more is frozen. -/
theorem callee_grow {B : Base} {μ μ0 : Hd} {S S' : BSet} {w : World} {h h' h0 : Hp} {A : BSet} (I' : Inv B μ S' w h') (g : Given B μ S w h A) (f : Fz μ w S h S' h') (I0 : Inv ⟨w, A, S⟩ μ0 S w h0) : Inv ⟨w, A, S'⟩ μ0 S' w h0 where
  base := ⟨I0.base.os, I0.base.tape, I0.base.output, I0.base.size, I0.base.same, I0.base.drew⟩
  dom := I0.dom
  fresh := I0.fresh
  obj o ob u h1 h2 := (I0.obj o ob u h1 h2).keep (Hd.le.refl _) f.keep fun _ _ => rfl
  sep := I0.sep
  out o ob u b h1 h2 h3 := by
    obtain ⟨_, h5⟩ := I0.out o ob u b h1 h2 h3
    refine ⟨fun hs => ?_, h5⟩
    have hlt := (I0.obj o ob u h1 h2).lt h3
    rcases h5 with h5 | h5
    · simp only at h5; omega
    · exact ((g.fz f) b h5).2.1 hs
  lt := I'.lt
  sub b hb := .inl hb

/-- A row is handed over. -/
theorem callee_adopt {μ0 : Hd} {S : BSet} {w : World} {h0 : Hp} {A : BSet} (I0 : Inv ⟨w, A, S⟩ μ0 S w h0) {E : TypeId} {e : Ty} {l : List e.D} {u : Value} (ho : ∀ μ', ORep μ' S w (.row E e l) u) (hb : ∀ b, ownB (.row E e l) u = some b → ¬ S b ∧ ¬ A b ∧ b < w.heap.size) :
    Inv ⟨w, fun b => A b ∨ ownB (.row E e l) u = some b, S⟩ (μ0.put h0.length u) S w (h0 ++ [.row E e l]) := by
  have hn : μ0 h0.length = none := I0.fresh _ (Nat.le_refl _)
  have key : ∀ {i : Nat} {x : Ob} {v : Value}, (h0 ++ [.row E e l])[i]? = some x → μ0.put h0.length u i = some v → (i = h0.length ∧ x = .row E e l ∧ v = u) ∨ (i ≠ h0.length ∧ h0[i]? = some x ∧ μ0 i = some v) := by
    intro i x v h1 h2
    rcases get_snoc h1 with ⟨l1, e1⟩ | ⟨l1, rfl⟩
    · rcases Hd.put_get h2 with ⟨rfl, _⟩ | ⟨hne, h2'⟩
      · omega
      · exact .inr ⟨hne, e1, h2'⟩
    · rcases Hd.put_get h2 with ⟨_, rfl⟩ | ⟨hne, h2'⟩
      · exact .inl ⟨l1, rfl, rfl⟩
      · exact absurd l1 hne
  have notown : ∀ {i : Nat} {x : Ob} {v : Value} {b : Nat}, h0[i]? = some x → μ0 i = some v → ownB x v = some b → ownB (.row E e l) u ≠ some b := by
    intro i x v b h1 h2 h3 h4
    have hlt := (I0.obj i x v h1 h2).lt h3
    rcases (I0.out i x v b h1 h2 h3).2 with h | h
    · simp only at h; omega
    · exact (hb b h4).2.1 h
  refine ⟨⟨rfl, rfl, rfl, Nat.le_refl _, fun _ _ _ => rfl, Nat.le_refl _⟩, fun i x h1 h2 => ?_, fun i hi => ?_, fun i x v h1 h2 => ?_, fun i i' x x' v v' b h1 h2 h3 h4 h5 h6 => ?_, fun i x v b h1 h2 h3 => ?_, I0.lt, fun b hb => .inl hb⟩
  · rcases get_snoc h1 with ⟨l1, e1⟩ | ⟨l1, rfl⟩
    · obtain ⟨v, hv⟩ := I0.dom i x e1 h2
      exact ⟨v, Hd.put_le hn _ _ hv⟩
    · subst l1; exact ⟨u, Hd.put_same⟩
  · simp only [List.length_append, List.length_singleton] at hi
    unfold Hd.put
    rw [if_neg (by omega)]
    exact I0.fresh i (by omega)
  · rcases key h1 h2 with ⟨rfl, rfl, rfl⟩ | ⟨hne, h1', h2'⟩
    · exact ho _
    · exact (I0.obj i x v h1' h2').keep (Hd.put_le hn) (Keeps.refl S w) fun _ _ => rfl
  · rcases key h1 h3 with ⟨rfl, rfl, rfl⟩ | ⟨hne, h1', h3'⟩ <;> rcases key h2 h4 with ⟨rfl, rfl, rfl⟩ | ⟨hne2, h2', h4'⟩
    · rfl
    · exact absurd h5 (notown h2' h4' h6)
    · exact absurd h6 (notown h1' h3' h5)
    · exact I0.sep i i' x x' v v' b h1' h2' h3' h4' h5 h6
  · rcases key h1 h2 with ⟨rfl, rfl, rfl⟩ | ⟨hne, h1', h2'⟩
    · exact ⟨(hb b h3).1, .inr (.inr h3)⟩
    · obtain ⟨h5, h6⟩ := I0.out i x v b h1' h2' h3
      exact ⟨h5, h6.imp id .inl⟩

theorem IoR.fz {μ μ0 μ0' : Hd} {w : World} {S S' : BSet} {h h' : Hp} (hl : μ0.le μ0') (f : Fz μ w S h S' h') : ∀ vs vs0, IoR μ μ0 h vs vs0 → IoR μ μ0' h' vs vs0
  | [], [], _ => trivial
  | v :: vs, v0 :: vs0, ⟨⟨n, h1, h2⟩, h3⟩ => by
    refine ⟨⟨n, h1, ?_⟩, IoR.fz hl f vs vs0 h3⟩
    rcases h2 with ⟨h2, h4⟩ | ⟨o, u, h2, h4, h5, h6⟩
    · exact .inl ⟨h2, hl _ _ h4⟩
    · exact .inr ⟨o, u, h2, f.dead o h4, h5, hl _ _ h6⟩
  | [], _ :: _, h => h.elim
  | _ :: _, [], h => h.elim

/-- A row of one's own is handed over. -/
theorem ownD_sound {B : Base} {μ μ0 : Hd} {S : BSet} {w : World} {h h0 : Hp} {A : BSet} (I : Inv B μ S w h) (g : Given B μ S w h A) (I0 : Inv ⟨w, A, S⟩ μ0 S w h0) {t : Ty} {v : V} {u : Value} {x : t.D} (hv : VRep μ S w v u) (hx : ownD t h v = some x) :
    ∃ (E : TypeId) (e : Ty) (ht : t = .slice E e) (A' : BSet), Inv B μ S w (kill h v) ∧ Fz μ w S h S (kill h v) ∧ Given B μ S w (kill h v) A' ∧ (∀ b, A b → A' b) ∧ Inv ⟨w, A', S⟩ (μ0.put h0.length u) S w (h0 ++ [.row E e (ht ▸ x : Ty.D (.slice E e))]) ∧
      ((v = .nils ∧ u = .slice none 0 0) ∨ ∃ o, v = .row o ∧ (kill h v)[o]? = some .dead ∧ μ o = some u) ∧ ∃ a n c, u = .slice a n c := by
  cases v with
  | row o =>
    cases t with
    | slice E e =>
      cases ho : h[o]? with
      | none => simp [ownD, ho] at hx
      | some ob =>
        cases ob with
        | row E' e' l =>
          simp only [ownD, ho] at hx
          split at hx
          · rename_i hee
            subst hee
            split at hx
            · rename_i hE
              subst hE
              cases hx
              simp only [VRep] at hv
              obtain ⟨hm, a, n, c, hu⟩ := hv
              obtain ⟨xs, hw, hl⟩ := I.obj o _ u ho hm
              have hob := ownsRow_owner hw e' l
              have hI := I.drop o
              have hf : Fz μ w S h S (h.set o .dead) := Fz.set (Keeps.refl S w) ho (.inr rfl) (fun u => by simp [ownB]) fun b hb => .inl hb
              have hout : ∀ b, ownB (.row E e' l) u = some b → ¬ S b ∧ B.ours b ∧ b < w.heap.size ∧ ¬ Own μ (h.set o .dead) b := fun b hb => by
                obtain ⟨h1, h2⟩ := I.out o _ u b ho hm hb
                refine ⟨h1, h2, (I.obj o _ u ho hm).lt hb, ?_⟩
                rintro ⟨i, ob, u', h3, h4, h5⟩
                rcases get_set h3 with ⟨rfl, rfl, _⟩ | ⟨hne, h3'⟩
                · simp [ownB] at h5
                · exact hne (I.sep i o ob _ u' u b h3' ho h4 hm h5 hb)
              refine ⟨E, e', rfl, fun b => A b ∨ ownB (.row E e' l) u = some b, hI, hf, ?_, fun b hb => .inl hb, callee_adopt I0 (fun μ' => ⟨xs, hw, hl⟩) (fun b hb => ?_), .inr ⟨o, rfl, ?_, hm⟩, a, n, c, hu⟩
              · rintro b (hb | hb)
                · exact g.fz hf b hb
                · obtain ⟨h1, h2, h3, h4⟩ := hout b hb
                  exact ⟨h2, h1, h3, h4⟩
              · obtain ⟨h1, h2, h3, h4⟩ := hout b hb
                exact ⟨h1, fun hA => (g b hA).2.2.2 ⟨o, _, u, ho, hm, hb⟩, h3⟩
              · show (h.set o .dead)[o]? = some .dead
                rw [List.getElem?_set_self (by obtain ⟨h, _⟩ := List.getElem?_eq_some_iff.1 ho; exact h)]
            · cases hx
          · cases hx
        | _ => simp [ownD, ho] at hx
    | _ => simp [ownD] at hx
  | nils =>
    cases t with
    | slice E e =>
      simp only [ownD, Option.some.injEq] at hx
      subst hx
      simp only [VRep] at hv
      subst hv
      refine ⟨E, e, rfl, fun b => A b ∨ ownB (.row E e ([] : List e.D)) (.slice none 0 0) = some b, I, Fz.refl μ w S h, ?_, fun b hb => .inl hb, callee_adopt (l := ([] : List e.D)) I0 (fun μ' => ⟨[], World.ownsRow_nil w 0 E e.size, rfl⟩) (fun b hb => by simp [ownB] at hb), .inl ⟨rfl, rfl⟩, _, _, _, rfl⟩
      rintro b (hb | hb)
      · exact g b hb
      · simp [ownB] at hb
    | _ => simp [ownD] at hx
  | _ => simp [ownD] at hx

end X
end Go.Proofs.YtjnfmjeiceiciaaGreat

/-
Arguments that are handed over: the theorem; behind a call.
-/
namespace Go.Proofs.YtjnfmjeiceiciaaGreat
namespace X
open Go Go.RowKit
set_option linter.unusedVariables false
set_option linter.unusedSimpArgs false
set_option linter.unnecessarySimpa false
set_option linter.unusedSectionVars false

/-- What is known when arguments have been handed over. -/
structure Handed (B : Base) (μ : Hd) (S : BSet) (w : World) (h : Hp) (A : BSet) (μ0 : Hd) (vs0 : List V) (h0' : Hp) (us : List Value) (h' : Hp) (io io0 : List V) : Prop where
  ex : ∃ (S' A' : BSet) (μ0' : Hd), Inv B μ S' w h' ∧ Fz μ w S h S' h' ∧ Inv ⟨w, A', S'⟩ μ0' S' w h0' ∧ VRepL μ0' S' w vs0 us ∧ μ0.le μ0' ∧ (∀ b, A b → A' b) ∧ Given B μ S' w h' A' ∧ IoR μ μ0' h' io io0

theorem Handed.cons {B : Base} {μ : Hd} {S S1 : BSet} {w : World} {h h1 h' : Hp} {A A1 : BSet} {μ0 μ1 : Hd} {vs0 : List V} {h0' : Hp} {us : List Value} {io io0 : List V} (f : Fz μ w S h S1 h1) (hm : μ0.le μ1) (hA : ∀ b, A b → A1 b) (H : Handed B μ S1 w h1 A1 μ1 vs0 h0' us h' io io0)
    {v0 : V} {u : Value} (hv : VRep μ1 S1 w v0 u) : Handed B μ S w h A μ0 (v0 :: vs0) h0' (u :: us) h' io io0 := by
  obtain ⟨S', A', μ0', h2, h3, h4, h5, h6, h7, h8, h9⟩ := H.ex
  refine ⟨S', A', μ0', h2, f.trans h3, h4, ?_, hm.trans h6, fun b hb => h7 b (hA b hb), h8, h9⟩
  simp only [VRepL]
  exact ⟨u, us, rfl, VRep.keep h6 h3.keep _ _ hv, h5⟩

theorem argsOwn {B : Base} {μ : Hd} {w : World} {fz : Bool} : ∀ (sh : List AS) (t : Ty) (vs : List V) (us : List Value) (x : t.D) (h' : Hp) (io : List V) (S : BSet) (h : Hp) (A : BSet) (μ0 : Hd) (h0 : Hp),
    (fz = true ∨ dFlat sh t = true) → argsD fz false sh t vs h = some (x, h', io) → Inv B μ S w h → VRepL μ S w vs us → Given B μ S w h A → Inv ⟨w, A, S⟩ μ0 S w h0 →
    Handed B μ S w h A μ0 (argsV sh t x h0).1 (argsV sh t x h0).2 us h' io (ioV sh (argsV sh t x h0).1)
  | [], t, vs, us, x, h', io, S, h, A, μ0, h0, hq, ha, I, hv, g, I0 => by
    cases t <;> cases vs <;> simp [argsD] at ha
    obtain ⟨rfl, rfl⟩ := ha
    simp only [VRepL] at hv
    subst hv
    exact ⟨S, A, μ0, I, Fz.refl μ w S h, by simpa [argsV] using I0, by simp [argsV, VRepL], Hd.le.refl μ0, fun _ h => h, g, by simp [ioV, IoR]⟩
  | .d :: sh, .pair a b, v :: vs, us, x, h', io, S, h, A, μ0, h0, hq, ha, I, hv, g, I0 => by
    simp only [argsD] at ha
    split at ha
    · rename_i hag
      split at ha
      · rename_i x1 h1 hx
        split at ha
        · rename_i y r hy
          simp only [Option.some.injEq, Prod.mk.injEq] at ha
          obtain ⟨rfl, hr⟩ := ha
          simp only [VRepL] at hv
          obtain ⟨u, us, rfl, hv1, hv2⟩ := hv
          obtain ⟨r1, r2⟩ := r
          simp only [Prod.mk.injEq] at hr
          obtain ⟨rfl, rfl⟩ := hr
          obtain ⟨S1, I1, f1, hrep⟩ : ∃ S1, Inv B μ S1 w h1 ∧ Fz μ w S h S1 h1 ∧ Rep S1 w a x1 u.cells.toList := by
            cases fz with
            | true => exact toD_froze I hv1 hx
            | false =>
              have hfl : a.flat = true := by
                rcases hq with hq | hq
                · cases hq
                · simp only [dFlat, Bool.and_eq_true] at hq; exact hq.1
              obtain ⟨e1, e2⟩ := toD_in I (.inl hfl) hv1 hx
              subst e1
              exact ⟨S, I, Fz.refl μ w S _, e2⟩
          have H := argsOwn sh b vs us y _ _ S1 h1 A μ0 h0 (hq.imp id fun hq => by simp only [dFlat, Bool.and_eq_true] at hq; exact hq.2) hy I1 (VRepL.keep (Hd.le.refl μ) f1.keep _ _ hv2) (g.fz f1) (callee_grow I1 g f1 I0)
          simp only [argsV, ioV]
          exact Handed.cons f1 (Hd.le.refl μ0) (fun _ h => h) H (vrep_of_cells hx hag hv1 hrep)
        · cases ha
      · cases ha
    · cases ha
  | .ip :: sh, .pair a b, v :: vs, us, x, h', io, S, h, A, μ0, h0, hq, ha, I, hv, g, I0 => by
    simp only [argsD] at ha
    split at ha
    · rename_i x1 hx
      split at ha
      · rename_i y r hy
        simp only [Option.some.injEq, Prod.mk.injEq] at ha
        obtain ⟨rfl, hr⟩ := ha
        simp only [VRepL] at hv
        obtain ⟨u, us, rfl, hv1, hv2⟩ := hv
        obtain ⟨r1, r2⟩ := r
        simp only [Prod.mk.injEq] at hr
        obtain ⟨rfl, rfl⟩ := hr
        have H := argsOwn sh b vs us y _ _ S h A μ0 h0 (hq.imp id fun hq => by simp only [dFlat, Bool.and_eq_true] at hq; exact hq.2) hy I hv2 g I0
        simp only [argsV, ioV]
        exact Handed.cons (Fz.refl μ w S h) (Hd.le.refl μ0) (fun _ h => h) H (derefD_sound I (fun _ h => h) (by simp) hx hv1 μ0)
      · cases ha
    · cases ha
  | .fn f 0 :: sh, t, [], us, x, h', io, S, h, A, μ0, h0, hq, ha, I, hv, g, I0 => by
    simp [argsD] at ha
  | .fn f 0 :: sh, t, v0 :: vs, us, x, h', io, S, h, A, μ0, h0, hq, ha, I, hv, g, I0 => by
    cases v0 with
    | fn g' caps =>
      cases caps with
      | nil =>
        simp only [argsD] at ha
        split at ha
        · rename_i hfg
          subst hfg
          simp only [VRepL] at hv
          obtain ⟨u, us, rfl, hv1, hv2⟩ := hv
          have H := argsOwn sh t vs us x _ _ S h A μ0 h0 (hq.imp id fun hq => by simpa [dFlat] using hq) ha I hv2 g I0
          simp only [argsV, ioV]
          refine Handed.cons (Fz.refl μ w S h) (Hd.le.refl μ0) (fun _ h => h) H ?_
          simp only [VRep] at hv1 ⊢
          obtain ⟨cs, rfl, hcs⟩ := hv1
          exact ⟨cs, rfl, by simpa [VRepL] using hcs⟩
        · cases ha
      | cons _ _ => simp [argsD] at ha
    | _ => simp [argsD] at ha
  | .fn f 1 :: sh, t, [], us, x, h', io, S, h, A, μ0, h0, hq, ha, I, hv, g, I0 => by
    cases t <;> simp [argsD] at ha
  | .fn f 1 :: sh, t, v0 :: vs, us, x, h', io, S, h, A, μ0, h0, hq, ha, I, hv, g, I0 => by
    cases t with
    | pair a b =>
      cases v0 with
      | fn g' caps =>
        cases caps with
        | nil => simp [argsD] at ha
        | cons v r =>
          cases r with
          | nil =>
            simp only [argsD] at ha
            split at ha
            · rename_i hfg
              subst hfg
              split at ha
              · rename_i x1 hx
                split at ha
                · rename_i y r hy
                  simp only [Option.some.injEq, Prod.mk.injEq] at ha
                  obtain ⟨rfl, hr⟩ := ha
                  simp only [VRepL] at hv
                  obtain ⟨u, us, rfl, hv1, hv2⟩ := hv
                  obtain ⟨r1, r2⟩ := r
                  simp only [Prod.mk.injEq] at hr
                  obtain ⟨rfl, rfl⟩ := hr
                  have H := argsOwn sh b vs us y _ _ S h A μ0 h0 (hq.imp id fun hq => by simp only [dFlat, Bool.and_eq_true] at hq; exact hq.2) hy I hv2 g I0
                  simp only [argsV, ioV]
                  refine Handed.cons (Fz.refl μ w S h) (Hd.le.refl μ0) (fun _ h => h) H ?_
                  simp only [VRep] at hv1 ⊢
                  obtain ⟨cs, rfl, hcs⟩ := hv1
                  refine ⟨cs, rfl, ?_⟩
                  simp only [VRepL] at hcs ⊢
                  obtain ⟨u1, r1, e1', hu1, e2'⟩ := hcs
                  exact ⟨u1, r1, e1', derefD_sound I (fun _ h => h) (by simp) hx hu1 μ0, e2'⟩
                · cases ha
              · cases ha
            · cases ha
          | cons _ _ => simp [argsD] at ha
      | _ => simp [argsD] at ha
    | _ => simp [argsD] at ha
  | .fn f 2 :: sh, t, [], us, x, h', io, S, h, A, μ0, h0, hq, ha, I, hv, g, I0 => by
    cases t <;> simp [argsD] at ha
  | .fn f 2 :: sh, t, v0 :: vs, us, x, h', io, S, h, A, μ0, h0, hq, ha, I, hv, g, I0 => by
    cases t with
    | pair a t2 =>
      cases t2 with
      | pair a' b =>
        cases v0 with
        | fn g' caps =>
          cases caps with
          | nil => simp [argsD] at ha
          | cons v r =>
            cases r with
            | nil => simp [argsD] at ha
            | cons v' r =>
              cases r with
              | nil =>
                simp only [argsD] at ha
                split at ha
                · rename_i hfg
                  subst hfg
                  split at ha
                  · rename_i x1 x2 hx hx2
                    split at ha
                    · rename_i y r hy
                      simp only [Option.some.injEq, Prod.mk.injEq] at ha
                      obtain ⟨rfl, hr⟩ := ha
                      simp only [VRepL] at hv
                      obtain ⟨u, us, rfl, hv1, hv2⟩ := hv
                      obtain ⟨r1, r2⟩ := r
                      simp only [Prod.mk.injEq] at hr
                      obtain ⟨rfl, rfl⟩ := hr
                      have H := argsOwn sh b vs us y _ _ S h A μ0 h0 (hq.imp id fun hq => by simp only [dFlat, Bool.and_eq_true] at hq; exact hq.2) hy I hv2 g I0
                      simp only [argsV, ioV]
                      refine Handed.cons (Fz.refl μ w S h) (Hd.le.refl μ0) (fun _ h => h) H ?_
                      simp only [VRep] at hv1 ⊢
                      obtain ⟨cs, rfl, hcs⟩ := hv1
                      refine ⟨cs, rfl, ?_⟩
                      simp only [VRepL] at hcs ⊢
                      obtain ⟨u1, r1, e1', hu1, u2, r2, e2', hu2, e3'⟩ := hcs
                      exact ⟨u1, r1, e1', derefD_sound I (fun _ h => h) (by simp) hx hu1 μ0, u2, r2, e2', derefD_sound I (fun _ h => h) (by simp) hx2 hu2 μ0, e3'⟩
                    · cases ha
                  · cases ha
                · cases ha
              | cons _ _ => simp [argsD] at ha
        | _ => simp [argsD] at ha
      | _ => simp [argsD] at ha
    | _ => simp [argsD] at ha
  | .fn f (n + 3) :: sh, t, vs, us, x, h', io, S, h, A, μ0, h0, hq, ha, I, hv, g, I0 => by
    simp [argsD] at ha
  | .nil :: sh, t, [], us, x, h', io, S, h, A, μ0, h0, hq, ha, I, hv, g, I0 => by
    simp [argsD] at ha
  | .nil :: sh, t, v0 :: vs, us, x, h', io, S, h, A, μ0, h0, hq, ha, I, hv, g, I0 => by
    cases v0 with
    | nils =>
      simp only [argsD] at ha
      simp only [VRepL] at hv
      obtain ⟨u, us, rfl, hv1, hv2⟩ := hv
      have H := argsOwn sh t vs us x _ _ S h A μ0 h0 (hq.imp id fun hq => by simpa [dFlat] using hq) ha I hv2 g I0
      simp only [argsV, ioV]
      exact Handed.cons (Fz.refl μ w S h) (Hd.le.refl μ0) (fun _ h => h) H (by simpa only [VRep] using hv1)
    | _ => simp [argsD] at ha
  | .own :: sh, .pair a b, v :: vs, us, x, h', io, S, h, A, μ0, h0, hq, ha, I, hv, g, I0 => by
    simp only [argsD] at ha
    split at ha
    · rename_i x1 hx
      split at ha
      · rename_i y r hy
        simp only [Option.some.injEq, Prod.mk.injEq] at ha
        obtain ⟨rfl, hr⟩ := ha
        simp only [VRepL] at hv
        obtain ⟨u, us, rfl, hv1, hv2⟩ := hv
        obtain ⟨r1, r2⟩ := r
        simp only [Prod.mk.injEq] at hr
        obtain ⟨rfl, rfl⟩ := hr
        obtain ⟨E, e, rfl, A1, I1, f1, g1, hA, I01, hor, hsl⟩ := ownD_sound I g I0 hv1 hx
        have H := argsOwn sh b vs us y _ _ S (kill h v) A1 (μ0.put h0.length u) (h0 ++ [.row E e x1]) (hq.imp id fun hq => by simpa [dFlat] using hq) hy I1 hv2 g1 I01
        simp only [argsV, ioV]
        refine Handed.cons f1 (Hd.put_le (I0.fresh _ (Nat.le_refl _))) hA H ?_
        simp only [VRep]
        exact ⟨Hd.put_same, hsl⟩
      · cases ha
    · cases ha
  | .io :: sh, .pair a b, v :: vs, us, x, h', io, S, h, A, μ0, h0, hq, ha, I, hv, g, I0 => by
    simp only [argsD] at ha
    split at ha
    · rename_i x1 hx
      split at ha
      · rename_i y h2 io2 hy
        simp only [Option.some.injEq, Prod.mk.injEq] at ha
        obtain ⟨rfl, rfl, rfl⟩ := ha
        simp only [VRepL] at hv
        obtain ⟨u, us, rfl, hv1, hv2⟩ := hv
        obtain ⟨E, e, rfl, A1, I1, f1, g1, hA, I01, hor, hsl⟩ := ownD_sound I g I0 hv1 hx
        have H := argsOwn sh b vs us y _ _ S (kill h v) A1 (μ0.put h0.length u) (h0 ++ [.row E e x1]) (hq.imp id fun hq => by simpa [dFlat] using hq) hy I1 hv2 g1 I01
        obtain ⟨S', A', μ0', h2', h3, h4, h5, h6, h7, h8, h9⟩ := H.ex
        simp only [argsV, ioV]
        refine ⟨S', A', μ0', h2', f1.trans h3, h4, ?_, (Hd.put_le (I0.fresh _ (Nat.le_refl _))).trans h6, fun b hb => h7 b (hA b hb), h8, ?_⟩
        · simp only [VRepL]
          refine ⟨u, us, rfl, ?_, h5⟩
          simp only [VRep]
          exact ⟨h6 _ _ Hd.put_same, hsl⟩
        · refine ⟨⟨h0.length, rfl, ?_⟩, h9⟩
          rcases hor with ⟨rfl, rfl⟩ | ⟨o, rfl, hd, hm⟩
          · exact .inl ⟨rfl, h6 _ _ Hd.put_same⟩
          · exact .inr ⟨o, u, rfl, h3.dead o hd, hm, h6 _ _ Hd.put_same⟩
      · cases ha
    · cases ha
  | .d :: sh, .unit, vs, us, x, h', io, S, h, A, μ0, h0, hq, ha, I, hv, g, I0 => by simp [argsD] at ha
  | .d :: sh, .int _, vs, us, x, h', io, S, h, A, μ0, h0, hq, ha, I, hv, g, I0 => by simp [argsD] at ha
  | .d :: sh, .bool, vs, us, x, h', io, S, h, A, μ0, h0, hq, ha, I, hv, g, I0 => by simp [argsD] at ha
  | .d :: sh, .str, vs, us, x, h', io, S, h, A, μ0, h0, hq, ha, I, hv, g, I0 => by simp [argsD] at ha
  | .d :: sh, .slice _ _, vs, us, x, h', io, S, h, A, μ0, h0, hq, ha, I, hv, g, I0 => by simp [argsD] at ha
  | .d :: sh, .pair _ _, [], us, x, h', io, S, h, A, μ0, h0, hq, ha, I, hv, g, I0 => by simp [argsD] at ha
  | .ip :: sh, .unit, vs, us, x, h', io, S, h, A, μ0, h0, hq, ha, I, hv, g, I0 => by simp [argsD] at ha
  | .ip :: sh, .int _, vs, us, x, h', io, S, h, A, μ0, h0, hq, ha, I, hv, g, I0 => by simp [argsD] at ha
  | .ip :: sh, .bool, vs, us, x, h', io, S, h, A, μ0, h0, hq, ha, I, hv, g, I0 => by simp [argsD] at ha
  | .ip :: sh, .str, vs, us, x, h', io, S, h, A, μ0, h0, hq, ha, I, hv, g, I0 => by simp [argsD] at ha
  | .ip :: sh, .slice _ _, vs, us, x, h', io, S, h, A, μ0, h0, hq, ha, I, hv, g, I0 => by simp [argsD] at ha
  | .ip :: sh, .pair _ _, [], us, x, h', io, S, h, A, μ0, h0, hq, ha, I, hv, g, I0 => by simp [argsD] at ha
  | .own :: sh, .unit, vs, us, x, h', io, S, h, A, μ0, h0, hq, ha, I, hv, g, I0 => by simp [argsD] at ha
  | .own :: sh, .int _, vs, us, x, h', io, S, h, A, μ0, h0, hq, ha, I, hv, g, I0 => by simp [argsD] at ha
  | .own :: sh, .bool, vs, us, x, h', io, S, h, A, μ0, h0, hq, ha, I, hv, g, I0 => by simp [argsD] at ha
  | .own :: sh, .str, vs, us, x, h', io, S, h, A, μ0, h0, hq, ha, I, hv, g, I0 => by simp [argsD] at ha
  | .own :: sh, .slice _ _, vs, us, x, h', io, S, h, A, μ0, h0, hq, ha, I, hv, g, I0 => by simp [argsD] at ha
  | .own :: sh, .pair _ _, [], us, x, h', io, S, h, A, μ0, h0, hq, ha, I, hv, g, I0 => by simp [argsD] at ha
  | .io :: sh, .unit, vs, us, x, h', io, S, h, A, μ0, h0, hq, ha, I, hv, g, I0 => by simp [argsD] at ha
  | .io :: sh, .int _, vs, us, x, h', io, S, h, A, μ0, h0, hq, ha, I, hv, g, I0 => by simp [argsD] at ha
  | .io :: sh, .bool, vs, us, x, h', io, S, h, A, μ0, h0, hq, ha, I, hv, g, I0 => by simp [argsD] at ha
  | .io :: sh, .str, vs, us, x, h', io, S, h, A, μ0, h0, hq, ha, I, hv, g, I0 => by simp [argsD] at ha
  | .io :: sh, .slice _ _, vs, us, x, h', io, S, h, A, μ0, h0, hq, ha, I, hv, g, I0 => by simp [argsD] at ha
  | .io :: sh, .pair _ _, [], us, x, h', io, S, h, A, μ0, h0, hq, ha, I, hv, g, I0 => by simp [argsD] at ha

end X
end Go.Proofs.YtjnfmjeiceiciaaGreat

/-
Calls by contracts: the theorems.
-/
namespace Go.Proofs.YtjnfmjeiceiciaaGreat
namespace X
open Go Go.RowKit
set_option linter.unusedVariables false
set_option linter.unusedSimpArgs false
set_option linter.unnecessarySimpa false
set_option linter.unusedSectionVars false

/-! ### What holds whatever blocks are handed out -/

mutual
def flatV : V → Bool
  | .dat t _ => t.flat
  | .row _ => true
  | .agg vs => flatVs vs
  | .tup vs => flatVs vs
  | .undef => true
  | _ => false
def flatVs : List V → Bool
  | [] => true
  | v :: r => flatV v && flatVs r
end

mutual
theorem VRep.flatc {μ μ' : Hd} {S S' : BSet} {w : World} (hp : μ.le μ') : ∀ (v : V) (u : Value), flatV v = true → VRep μ S w v u → VRep μ' S' w v u
  | .undef, _, _, h => by simp [VRep]
  | .dat t x, u, hf, h => by
    simp only [flatV] at hf
    simp only [VRep] at *
    obtain ⟨cs, h1, h2⟩ := h
    exact ⟨cs, Rep.flat t x cs hf h1, h2⟩
  | .agg vs, u, hf, h => by
    simp only [flatV] at hf
    simp only [VRep] at *
    obtain ⟨cs, h1, h2, h3⟩ := h
    exact ⟨cs, h1, VRepL.flatc hp vs _ hf h2, h3⟩
  | .row o, u, _, h => by
    simp only [VRep] at *
    exact ⟨hp _ _ h.1, h.2⟩
  | .tup vs, u, hf, h => by
    simp only [flatV] at hf
    simp only [VRep] at *
    obtain ⟨cs, h1, h2⟩ := h
    exact ⟨cs, h1, VRepL.flatc hp vs _ hf h2⟩
  | .skp, _, hf, _ => by simp [flatV] at hf
  | .kb _, _, hf, _ => by simp [flatV] at hf
  | .nils, _, hf, _ => by simp [flatV] at hf
  | .ip _ _, _, hf, _ => by simp [flatV] at hf
  | .cp _ _, _, hf, _ => by simp [flatV] at hf
  | .ep _ _ _ _, _, hf, _ => by simp [flatV] at hf
  | .ap _, _, hf, _ => by simp [flatV] at hf
  | .sub _ _ _ _, _, hf, _ => by simp [flatV] at hf
  | .fn _ _, _, hf, _ => by simp [flatV] at hf
  | .ifc _, _, hf, _ => by simp [flatV] at hf
theorem VRepL.flatc {μ μ' : Hd} {S S' : BSet} {w : World} (hp : μ.le μ') : ∀ (vs : List V) (us : List Value), flatVs vs = true → VRepL μ S w vs us → VRepL μ' S' w vs us
  | [], us, _, h => by simp only [VRepL] at *; exact h
  | v :: vs, us, hf, h => by
    simp only [flatVs, Bool.and_eq_true] at hf
    simp only [VRepL] at *
    obtain ⟨u, r, h1, h2, h3⟩ := h
    exact ⟨u, r, h1, VRep.flatc hp v u hf.1 h2, VRepL.flatc hp vs r hf.2 h3⟩
end

theorem flatVs_app : ∀ {p q : List V}, flatVs p = true → flatVs q = true → flatVs (p ++ q) = true
  | [], q, _, hq => hq
  | v :: p, q, hp, hq => by simp only [flatVs, Bool.and_eq_true, List.cons_append] at *; exact ⟨hp.1, flatVs_app hp.2 hq⟩
theorem flatVs_take : ∀ (n : Nat) {p : List V}, flatVs p = true → flatVs (p.take n) = true
  | 0, p, _ => rfl
  | n + 1, [], _ => rfl
  | n + 1, v :: p, h => by simp only [flatVs, Bool.and_eq_true, List.take_succ_cons] at *; exact ⟨h.1, flatVs_take n h.2⟩
theorem flatVs_drop : ∀ (n : Nat) {p : List V}, flatVs p = true → flatVs (p.drop n) = true
  | 0, p, h => h
  | n + 1, [], _ => rfl
  | n + 1, v :: p, h => by simp only [flatVs, Bool.and_eq_true, List.drop_succ_cons] at *; exact flatVs_drop n h.2
theorem flatVs_head {p : List V} (h : flatVs p = true) : flatV (p.headD .undef) = true := by
  cases p with
  | nil => rfl
  | cons v p => simp only [flatVs, Bool.and_eq_true] at h; exact h.1

theorem parts_flat : ∀ (t : Ty) (vs : List V), flatVs vs = true → flatVs (partsV t vs) = true
  | .pair a b, vs, h => by
    simp only [partsV, flatVs, Bool.and_eq_true]
    refine ⟨?_, parts_flat b _ (flatVs_drop _ h)⟩
    split
    · simp only [flatV]; exact flatVs_take _ h
    · exact flatVs_head h
  | .unit, vs, h => rfl
  | .int _, vs, h => rfl
  | .bool, vs, h => rfl
  | .str, vs, h => rfl
  | .slice _ _, vs, h => rfl

theorem resV_flat (r : Ty) (multi : Bool) {vs : List V} (h : flatVs vs = true) : flatV (resV r multi vs) = true := by
  unfold resV
  split
  · simp only [flatV]; exact parts_flat r vs h
  · split
    · simp only [flatV]; exact h
    · exact flatVs_head h

/-- Rows whose elements have no slices. -/
def flatH (h : Hp) : Prop := ∀ ob ∈ h, ∃ E e l, ob = .row E e l ∧ e.flat = true

theorem inject_flat : ∀ (t : Ty) (x : t.D) (m : List Bool) (n : Nat) (m2 : List Bool), okOwn t m = (true, m2) → flatVs (inject t x m n).1 = true ∧ (inject t x m n).2.1 = m2 ∧ flatH (inject t x m n).2.2
  | .unit, x, m, n, m2, h => by
    simp only [okOwn, Prod.mk.injEq, true_and] at h
    exact ⟨rfl, by simp [inject, h], fun ob ho => by simp [inject] at ho⟩
  | .pair a b, x, m, n, m2, h => by
    simp only [okOwn, Prod.mk.injEq, Bool.and_eq_true] at h
    obtain ⟨⟨h1, h2⟩, h3⟩ := h
    obtain ⟨e1, e2, e3⟩ := inject_flat a x.1 m n (okOwn a m).2 (by rw [← h1])
    obtain ⟨f1, f2, f3⟩ := inject_flat b x.2 (okOwn a m).2 (n + (inject a x.1 m n).2.2.length) m2 (by rw [← h2, ← h3])
    simp only [inject, e2]
    refine ⟨flatVs_app e1 f1, f2, fun ob ho => ?_⟩
    rcases List.mem_append.1 ho with ho | ho
    · exact e3 ob ho
    · exact f3 ob ho
  | .slice E e, x, true :: m, n, m2, h => by
    simp only [okOwn, Prod.mk.injEq] at h
    simp only [inject]
    refine ⟨rfl, h.2, fun ob ho => ?_⟩
    simp at ho
    exact ⟨E, e, x, ho, h.1⟩
  | .slice E e, x, false :: m, n, m2, h => by simp [okOwn] at h
  | .slice E e, x, [], n, m2, h => by simp [okOwn] at h
  | .int k, x, m, n, m2, h => by
    simp only [okOwn, Prod.mk.injEq, true_and] at h
    exact ⟨rfl, by simp [inject, h], fun ob ho => by simp [inject] at ho⟩
  | .bool, x, m, n, m2, h => by
    simp only [okOwn, Prod.mk.injEq, true_and] at h
    exact ⟨rfl, by simp [inject, h], fun ob ho => by simp [inject] at ho⟩
  | .str, x, m, n, m2, h => by
    simp only [okOwn, Prod.mk.injEq, true_and] at h
    exact ⟨rfl, by simp [inject, h], fun ob ho => by simp [inject] at ho⟩

theorem get_pad {n : Nat} {hn : Hp} {k : Nat} {ob : Ob} (hk : n ≤ k) (h : (List.replicate n .dead ++ hn)[k]? = some ob) : hn[k - n]? = some ob := by
  rw [List.getElem?_append_right (by simpa using hk)] at h
  simpa using h
theorem get_pad' {n : Nat} {hn : Hp} {k : Nat} {ob : Ob} (h : hn[k]? = some ob) : (List.replicate n .dead ++ hn)[n + k]? = some ob := by
  rw [List.getElem?_append_right (by simp)]
  simpa using h

/-- Headers from n on. -/
def Hd.join (μ μ' : Hd) (n : Nat) : Hd := fun k => if k < n then μ k else μ' k

/-- Behind a call: the caller's memory. -/
theorem after_call {B : Base} {μ : Hd} {S1 : BSet} {w : World} {h1 : Hp} (I : Inv B μ S1 w h1) {A Sx : BSet} (hsub : ∀ b, S1 b → Sx b) (g : Given B μ S1 w h1 A) {μ' : Hd} {S' : BSet} {w' : World} {hn : Hp} (hk : Keeps Sx S' w w')
    (hnone : ∀ k, k < h1.length → μ' k = none) (Ic : Inv ⟨w, A, Sx⟩ μ' S' w' (List.replicate h1.length .dead ++ hn)) {S2 : BSet} (hS2 : (S2 = S' ∧ ∀ b, Sx b → S1 b) ∨ (S2 = S1 ∧ flatH hn)) :
    Inv B (μ.join μ' h1.length) S2 w' (h1 ++ hn) ∧ μ.le (μ.join μ' h1.length) ∧ μ'.le (μ.join μ' h1.length) ∧ Keeps S1 S2 w w' ∧ (∀ b, S2 b → S1 b ∨ w.heap.size ≤ b ∨ A b) ∧
      ∀ k ob x b, h1.length ≤ k → (h1 ++ hn)[k]? = some ob → μ.join μ' h1.length k = some x → ownB ob x = some b → w.heap.size ≤ b ∨ A b := by
  have le1 : μ.le (μ.join μ' h1.length) := fun o v h => by
    have : o < h1.length := by
      by_cases hlt : o < h1.length
      · exact hlt
      · rw [I.fresh o (by omega)] at h; cases h
    simp [Hd.join, this, h]
  have le2 : μ'.le (μ.join μ' h1.length) := fun o v h => by
    have : ¬ o < h1.length := fun hlt => by rw [hnone o hlt] at h; cases h
    simp [Hd.join, this, h]
  have hs2 : ∀ b, S2 b → S1 b ∨ w.heap.size ≤ b ∨ A b := fun b hb => by
    rcases hS2 with ⟨rfl, hx⟩ | ⟨rfl, _⟩
    · rcases Ic.sub b hb with h | h
      · exact .inl (hx b h)
      · exact .inr h
    · exact .inl hb
  have hS2S' : ∀ b, S2 b → S' b := fun b hb => by
    rcases hS2 with ⟨rfl, _⟩ | ⟨rfl, _⟩
    · exact hb
    · exact hk.sub b (hsub b hb)
  have k12 : Keeps S1 S2 w w' := ⟨fun b hb => by
    rcases hS2 with ⟨rfl, _⟩ | ⟨rfl, _⟩
    · exact hk.sub b (hsub b hb)
    · exact hb, fun b hb => hk.same b (hsub b hb)⟩
  have same : ∀ {i : Nat} {ob : Ob} {u : Value} {b : Nat}, h1[i]? = some ob → μ i = some u → ownB ob u = some b → ¬ A b ∧ b < w.heap.size := fun {i ob u b} e1 e2 e3 =>
    ⟨fun hA => (g b hA).2.2.2 ⟨i, ob, u, e1, e2, e3⟩, (I.obj i ob u e1 e2).lt e3⟩
  have key : ∀ {i : Nat} {ob : Ob} {u : Value}, (h1 ++ hn)[i]? = some ob → μ.join μ' h1.length i = some u →
      (i < h1.length ∧ h1[i]? = some ob ∧ μ i = some u) ∨ (h1.length ≤ i ∧ (List.replicate h1.length .dead ++ hn)[i]? = some ob ∧ μ' i = some u ∧ hn[i - h1.length]? = some ob) := by
    intro i ob u e1 e2
    by_cases hi : i < h1.length
    · rw [List.getElem?_append_left hi] at e1
      simp only [Hd.join, hi, if_true] at e2
      exact .inl ⟨hi, e1, e2⟩
    · rw [List.getElem?_append_right (by omega)] at e1
      simp only [Hd.join, hi, if_false] at e2
      refine .inr ⟨by omega, ?_, e2, e1⟩
      rw [List.getElem?_append_right (by simp; omega)]
      simpa using e1
  have hout : ∀ {i : Nat} {ob : Ob} {u : Value} {b : Nat}, (List.replicate h1.length .dead ++ hn)[i]? = some ob → μ' i = some u → ownB ob u = some b → ¬ S' b ∧ (w.heap.size ≤ b ∨ A b) := fun e1 e2 e3 => Ic.out _ _ _ _ e1 e2 e3
  refine ⟨⟨⟨Ic.base.os.trans I.base.os, Ic.base.tape.trans I.base.tape, Ic.base.output.trans I.base.output, Nat.le_trans I.base.size Ic.base.size, fun k hk' hA => ?_, Nat.le_trans I.base.drew Ic.base.drew⟩, fun i ob e1 hd => ?_, fun i hi => ?_, fun i ob u e1 e2 => ?_, fun i i' ob ob' u u' b e1 e2 e3 e4 e5 e6 => ?_, fun i ob u b e1 e2 e3 => ?_, fun b hb => ?_, fun b hb => ?_⟩, le1, le2, k12, hs2, fun k ob x b hk' e1 e2 e3 => ?_⟩
  · refine (Ic.base.same k (Nat.lt_of_lt_of_le hk' I.base.size) fun hA' => ?_).trans (I.base.same k hk' hA)
    rcases (g k hA').1 with h | h
    · omega
    · exact hA h
  · by_cases hi : i < h1.length
    · rw [List.getElem?_append_left hi] at e1
      obtain ⟨u, hu⟩ := I.dom i ob e1 hd
      exact ⟨u, le1 _ _ hu⟩
    · rw [List.getElem?_append_right (by omega)] at e1
      have := get_pad' (n := h1.length) e1
      rw [show h1.length + (i - h1.length) = i by omega] at this
      obtain ⟨u, hu⟩ := Ic.dom i ob this hd
      exact ⟨u, le2 _ _ hu⟩
  · simp only [List.length_append] at hi
    have : ¬ i < h1.length := by omega
    simp only [Hd.join, this, if_false]
    exact Ic.fresh i (by simp; omega)
  · rcases key e1 e2 with ⟨hi, e1', e2'⟩ | ⟨hi, e1', e2', e3'⟩
    · exact (I.obj i ob u e1' e2').keep le1 k12 fun b hb => Ic.base.same b (same e1' e2' hb).2 (same e1' e2' hb).1
    · rcases hS2 with ⟨rfl, _⟩ | ⟨rfl, hf⟩
      · exact (Ic.obj i ob u e1' e2').keep le2 (Keeps.refl _ _) fun _ _ => rfl
      · obtain ⟨E, e, l, rfl, hfl⟩ := hf ob (List.mem_of_getElem? e3')
        obtain ⟨xs, hw, hl⟩ := Ic.obj i _ u e1' e2'
        exact ⟨xs, hw, RepL.mono (fun x c hx => Rep.flat e x c hfl hx) _ _ hl⟩
  · rcases key e1 e3 with ⟨hi, e1', e3'⟩ | ⟨hi, e1', e3', _⟩ <;> rcases key e2 e4 with ⟨hi2, e2', e4'⟩ | ⟨hi2, e2', e4', _⟩
    · exact I.sep i i' ob ob' u u' b e1' e2' e3' e4' e5 e6
    · obtain ⟨p1, p2⟩ := same e1' e3' e5
      rcases (hout e2' e4' e6).2 with h | h
      · omega
      · exact absurd h p1
    · obtain ⟨p1, p2⟩ := same e2' e4' e6
      rcases (hout e1' e3' e5).2 with h | h
      · omega
      · exact absurd h p1
    · exact Ic.sep i i' ob ob' u u' b e1' e2' e3' e4' e5 e6
  · rcases key e1 e2 with ⟨hi, e1', e2'⟩ | ⟨hi, e1', e2', _⟩
    · obtain ⟨p1, p2⟩ := I.out i ob u b e1' e2' e3
      refine ⟨fun hs => ?_, p2⟩
      obtain ⟨q1, q2⟩ := same e1' e2' e3
      rcases hs2 b hs with h | h | h
      · exact p1 h
      · omega
      · exact q1 h
    · obtain ⟨p1, p2⟩ := hout e1' e2' e3
      refine ⟨fun hs => p1 (hS2S' b hs), ?_⟩
      rcases p2 with h | h
      · exact .inl (Nat.le_trans I.base.size h)
      · exact (g b h).1
  · exact Ic.lt b (hS2S' b hb)
  · rcases hs2 b hb with h | h | h
    · exact I.sub b h
    · exact .inr (.inl (Nat.le_trans I.base.size h))
    · exact .inr (g b h).1
  · rcases key e1 e2 with ⟨hi, _⟩ | ⟨hi, e1', e2', _⟩
    · omega
    · exact (hout e1' e2' e3).2

/-- A callee that is handed nothing. -/
theorem callee_none (w : World) (Sx : BSet) (hlt : ∀ b, Sx b → b < w.heap.size) : Inv ⟨w, fun _ => False, Sx⟩ (fun _ => none) Sx w [] where
  base := ⟨rfl, rfl, rfl, Nat.le_refl _, fun _ _ _ => rfl, Nat.le_refl _⟩
  dom o ob h _ := by simp at h
  fresh _ _ := rfl
  obj o ob u h _ := by simp at h
  sep o o' ob ob' u u' b h _ _ _ _ _ := by simp at h
  out o ob u b h _ _ := by simp at h
  lt := hlt
  sub b hb := .inl hb

theorem okOwn_pair (t : Ty) (m : List Bool) (h : (okOwn t m).1 = true) : okOwn t m = (true, (okOwn t m).2) := by rw [← h]

theorem callN_sound {P : Program} {tb : Tabs} {B : Base} {μ : Hd} {S : BSet} {w : World} {h : Hp} (I : Inv B μ S w h) {e : Env} {a : Act} (he : VRepL μ S w e a.tmps.toList) {o : Oper} {fo : Operand} {args : Array Operand} {argTypes : Array TypeId}
    (ho : o.op = .call { callee := .value fo, args, argTypes }) {ce : Option CE} (hce : ∀ m sh s, ce = some (.sig m sh s) → Sound P m sh s) {v : V} {hs : Hp} (hr : (callN ce (getV e fo) (args.toList.map (getV e)) h).run = some (v, hs)) : OpNew P B o a μ S w h v hs := by
  have hfo := getV_rep he fo
  unfold callN at hr
  split at hr
  · rename_i n caps hg
    rw [hg] at hfo
    simp only [VRep] at hfo
    obtain ⟨cs, hfu, hcaps⟩ := hfo
    split at hr
    · rename_i m sh s
      have hS := hce m sh s rfl
      split at hr
      · rename_i hc
        obtain ⟨rfl, c2, c3, c4, c5⟩ := hc
        have c3' : s.io = false := by simpa using c3
        split at hr
        · rename_i x h1 io hx
          obtain ⟨r, hfx, hr⟩ := Tr.run_bind hr
          simp only [Tr.run, Option.some.injEq, Prod.mk.injEq] at hr
          obtain ⟨rfl, rfl⟩ := hr
          have hvs := VRepL.app _ _ _ _ (getVs_rep he args.toList) hcaps
          have hvs' : VRepL μ S w (args.toList.map (getV e) ++ caps) (args.map a.eval ++ cs).toList := by simpa using hvs
          intro K Q hk
          have fin : ∀ (Sx : BSet), (∀ b, S b → Sx b) → (∀ b, Sx b → b < w.heap.size) → VRepL (fun _ => none) Sx w (argsV sh s.p x []).1 (args.map a.eval ++ cs).toList → (argsV sh s.p x []).2 = [] →
              ((∀ b, Sx b → S b) ∨ (okOwn s.r s.own).1 = true) → o.wp P a w K Q := by
            intro Sx hsub hlt hvr hnil hcase
            refine call_wp hS ho hfu (A := fun _ => False) (S0 := Sx) (μ := fun _ => none) h.length hfx (by rw [hnil]; exact callee_none w Sx hlt) hvr fun u w' hans => ?_
            simp only [Ans, c3', Bool.false_eq_true, if_false] at hans
            obtain ⟨μ', S', hkp, hnone, Ic, hv'⟩ := hans
            have g : Given B μ S w h (fun _ => False) := fun b hb => hb.elim
            rcases hcase with hx1 | hx1
            · obtain ⟨I2, l1, l2, k12, hs2, hfr⟩ := after_call I hsub g hkp hnone Ic (S2 := S') (.inl ⟨rfl, hx1⟩)
              refine hk u w' _ S' ⟨⟨Ic.base.os, Ic.base.tape, Ic.base.output, Ic.base.size, fun k hk => Ic.base.same k hk (fun h => h), Ic.base.drew⟩, I2, l1, fun k hk => by simp [Hd.join, hk], k12.sub, fun b hb => (hs2 b hb).imp id fun h => h.resolve_right (fun h => h), fun k ob x b h1 h2 h3 h4 => (hfr k ob x b h1 h2 h3 h4).resolve_right (fun h => h), VRep.keep l2 (Keeps.refl _ _) _ _ hv'⟩
            · obtain ⟨f1, _, f3⟩ := inject_flat s.r r s.own h.length _ (okOwn_pair _ _ hx1)
              obtain ⟨I2, l1, l2, k12, hs2, hfr⟩ := after_call I hsub g hkp hnone Ic (S2 := S) (.inr ⟨rfl, f3⟩)
              refine hk u w' _ S ⟨⟨Ic.base.os, Ic.base.tape, Ic.base.output, Ic.base.size, fun k hk => Ic.base.same k hk (fun h => h), Ic.base.drew⟩, I2, l1, fun k hk => by simp [Hd.join, hk], k12.sub, fun b hb => (hs2 b hb).imp id fun h => h.resolve_right (fun h => h), fun k ob x b h1 h2 h3 h4 => (hfr k ob x b h1 h2 h3 h4).resolve_right (fun h => h), VRep.flatc l2 _ _ (resV_flat _ _ f1) hv'⟩
          cases hfz : s.fz with
          | false =>
            rw [hfz] at hx c5
            obtain ⟨_, _, e3, e4⟩ := argsRead I (Sx := ltS w) (fun b hb => I.lt b hb) (fun _ b hb => hb) (fun _ => none) [] sh s.p _ _ x _ _ c2 (.inl fun b hb => hb) hx hvs'
            exact fin (ltS w) (fun b hb => I.lt b hb) (fun b hb => hb) e3 e4 (.inr (by simpa using c5))
          | true =>
            rw [hfz] at hx c4
            obtain ⟨_, _, e3, e4⟩ := argsRead I (Sx := S) (fun b hb => hb) (by simp) (fun _ => none) [] sh s.p _ _ x _ _ c2 (.inr (by simpa using c4)) hx hvs'
            exact fin S (fun b hb => hb) I.lt e3 e4 (.inl fun b hb => hb)
        · cases hr
      · cases hr
    · cases hr
  · cases hr

end X
end Go.Proofs.YtjnfmjeiceiciaaGreat

/-
Calls by contracts that take rows; operations in regions.
-/
namespace Go.Proofs.YtjnfmjeiceiciaaGreat
namespace X
open Go Go.RowKit
set_option linter.unusedVariables false
set_option linter.unusedSimpArgs false
set_option linter.unnecessarySimpa false
set_option linter.unusedSectionVars false

/-- A row comes back, under its header. -/
theorem Inv.revive {B : Base} {μ : Hd} {S : BSet} {w : World} {h : Hp} (I : Inv B μ S w h) {o : Nat} {ob : Ob} {u : Value} (ho : h[o]? = some .dead) (hm : μ o = some u) (hr : ORep μ S w ob u)
    (hb : ∀ b, ownB ob u = some b → (¬ S b ∧ B.ours b) ∧ ¬ Own μ h b) : Inv B μ S w (h.set o ob) := by
  have key : ∀ {i : Nat} {x : Ob} {v : Value}, (h.set o ob)[i]? = some x → μ i = some v → (i = o ∧ x = ob ∧ v = u) ∨ (i ≠ o ∧ h[i]? = some x) := by
    intro i x v h1 h2
    rcases get_set h1 with ⟨rfl, rfl, _⟩ | ⟨hne, h1'⟩
    · rw [hm] at h2; cases h2; exact .inl ⟨rfl, rfl, rfl⟩
    · exact .inr ⟨hne, h1'⟩
  refine ⟨I.base, I.dom_set (fun _ => ⟨u, hm⟩), fun i hi => I.fresh i (by simpa using hi), fun i x v h1 h2 => ?_, fun i i' x x' v v' b h1 h2 h3 h4 h5 h6 => ?_, fun i x v b h1 h2 h3 => ?_, I.lt, I.sub⟩
  · rcases key h1 h2 with ⟨rfl, rfl, rfl⟩ | ⟨_, h1'⟩
    · exact hr
    · exact I.obj i x v h1' h2
  · rcases key h1 h3 with ⟨rfl, rfl, rfl⟩ | ⟨hne, h1'⟩ <;> rcases key h2 h4 with ⟨rfl, rfl, rfl⟩ | ⟨hne2, h2'⟩
    · rfl
    · exact absurd ⟨i', x', v', h2', h4, h6⟩ (hb b h5).2
    · exact absurd ⟨i, x, v, h1', h3, h5⟩ (hb b h6).2
    · exact I.sep i i' x x' v v' b h1' h2' h3 h4 h5 h6
  · rcases key h1 h2 with ⟨rfl, rfl, rfl⟩ | ⟨hne, h1'⟩
    · exact (hb b h3).1
    · exact I.out i x v b h1' h2 h3

theorem io_cases {μ μ0 : Hd} {io io0 : List V} {h h2 hc hc1 : Hp} : ∀ (t : Ty) (r : t.D), setIO t r io h = some h2 → setIO t r io0 hc = some hc1 → IoR μ μ0 h io io0 →
    ∃ (E : TypeId) (e : Ty) (l : List e.D) (n0 : Nat), hc1 = hc.set n0 (.row E e l) ∧ (h2 = h ∨ ∃ o u, h2 = h.set o (.row E e l) ∧ h[o]? = some .dead ∧ μ o = some u ∧ μ0 n0 = some u) ∧ ((okOwn t [true]).1 = true → e.flat = true)
  | .pair (.slice E e) .unit, r, h1, h3, hio => by
    cases io with
    | nil => simp [setIO] at h1
    | cons v1 io =>
      cases io with
      | cons _ _ => cases v1 <;> simp [setIO] at h1
      | nil =>
        cases io0 with
        | nil => exact hio.elim
        | cons v01 io0 =>
          obtain ⟨⟨n0, rfl, hor⟩, hrest⟩ := hio
          cases io0 with
          | cons _ _ => exact hrest.elim
          | nil =>
            simp only [setIO, Option.some.injEq] at h3
            refine ⟨E, e, r.1, n0, h3.symm, ?_, fun hq => by simpa [okOwn] using hq⟩
            rcases hor with ⟨rfl, h0n⟩ | ⟨o', u', rfl, hdead, hmo, h0n⟩
            · simp only [setIO, Option.some.injEq] at h1
              exact .inl h1.symm
            · simp only [setIO, Option.some.injEq] at h1
              exact .inr ⟨o', u', h1.symm, hdead, hmo, h0n⟩
  | .pair (.slice E e) (.pair _ _), r, h1, h3, hio => by simp [setIO] at h1
  | .pair (.slice E e) (.int _), r, h1, h3, hio => by simp [setIO] at h1
  | .pair (.slice E e) .bool, r, h1, h3, hio => by simp [setIO] at h1
  | .pair (.slice E e) .str, r, h1, h3, hio => by simp [setIO] at h1
  | .pair (.slice E e) (.slice _ _), r, h1, h3, hio => by simp [setIO] at h1
  | .pair (.pair _ _) _, r, h1, h3, hio => by simp [setIO] at h1
  | .pair .unit _, r, h1, h3, hio => by simp [setIO] at h1
  | .pair (.int _) _, r, h1, h3, hio => by simp [setIO] at h1
  | .pair .bool _, r, h1, h3, hio => by simp [setIO] at h1
  | .pair .str _, r, h1, h3, hio => by simp [setIO] at h1
  | .unit, r, h1, h3, hio => by simp [setIO] at h1
  | .int _, r, h1, h3, hio => by simp [setIO] at h1
  | .bool, r, h1, h3, hio => by simp [setIO] at h1
  | .str, r, h1, h3, hio => by simp [setIO] at h1
  | .slice _ _, r, h1, h3, hio => by simp [setIO] at h1

theorem callW_sound {P : Program} {tb : Tabs} {B : Base} {μ : Hd} {S : BSet} {w : World} {h : Hp} (I : Inv B μ S w h) {e : Env} {a : Act} (he : VRepL μ S w e a.tmps.toList) {o : Oper} {fo : Operand} {args : Array Operand} {argTypes : Array TypeId}
    (ho : o.op = .call { callee := .value fo, args, argTypes }) {ce : Option CE} (hce : ∀ m sh s, ce = some (.sig m sh s) → Sound P m sh s) {v : V} {h' : Hp} (hr : (callW ce (getV e fo) (args.toList.map (getV e)) h).run = some (v, h')) : OpDoes P B o a μ S w v h' := by
  have hfo := getV_rep he fo
  unfold callW at hr
  split at hr
  · rename_i n caps hg
    rw [hg] at hfo
    simp only [VRep] at hfo
    obtain ⟨cs, hfu, hcaps⟩ := hfo
    split at hr
    · rename_i m sh s
      have hS := hce m sh s rfl
      split at hr
      · rename_i hc
        obtain ⟨rfl, c2, c3⟩ := hc
        split at hr
        · rename_i x h1 io hx
          obtain ⟨r, hfx, hr⟩ := Tr.run_bind hr
          have hvs := VRepL.app _ _ _ _ (getVs_rep he args.toList) hcaps
          have hvs' : VRepL μ S w (args.toList.map (getV e) ++ caps) (args.map a.eval ++ cs).toList := by simpa using hvs
          have c2' : s.fz = true ∨ dFlat sh s.p = true := by
            simp only [Bool.or_eq_true, Bool.and_eq_true] at c2
            exact c2.imp id fun h => h.1
          have H := argsOwn sh s.p _ _ x h1 io S h (fun _ => False) (fun _ => none) [] c2' hx I hvs' (fun b hb => hb.elim) (callee_none w S I.lt)
          obtain ⟨S1, A, μ0, I1, f1, I0, hv0, _, _, g, hio⟩ := H.ex
          intro K Q hk
          refine call_wp hS ho hfu (A := A) (S0 := S1) (μ := μ0) h1.length hfx I0 hv0 fun u w' hans => ?_
          unfold Ans at hans
          split at hans
          · -- a row changed in place
            rename_i hsio
            rw [if_pos hsio] at hr
            obtain ⟨S', hc1, rfl, hkp, hset, Ic⟩ := hans
            rw [hsio] at c3
            simp only [Bool.not_true, Bool.false_or, Bool.and_eq_true, Bool.not_eq_true'] at c3
            obtain ⟨c4, c5⟩ := c3
            split at hr
            · rename_i h2 hset2
              simp only [Tr.run, Option.some.injEq, Prod.mk.injEq] at hr
              obtain ⟨rfl, rfl⟩ := hr
              -- the caller's memory, without the row
              have Ic0 : Inv ⟨w, A, S1⟩ (fun _ => none) S' w' (List.replicate h1.length .dead ++ []) := by
                refine ⟨Ic.base, fun i ob e1 hd => ?_, fun _ _ => rfl, (fun i ob u e1 e2 => by cases e2), (fun i i' ob ob' u u' b e1 e2 e3 => by cases e3), (fun i ob u b e1 e2 => by cases e2), Ic.lt, Ic.sub⟩
                rw [List.append_nil, List.getElem?_replicate] at e1
                split at e1
                · cases e1; exact absurd rfl hd
                · cases e1
              obtain ⟨I2, l1, _, k12, hs2, _⟩ := after_call I1 (fun b hb => hb) g hkp (fun _ _ => rfl) Ic0 (S2 := S1) (.inr ⟨rfl, fun ob ho => by cases ho⟩)
              rw [List.append_nil] at I2
              have hjoin : μ.join (fun _ => none) h1.length = μ := by
                funext k
                unfold Hd.join
                split
                · rfl
                · exact (I1.fresh k (by omega)).symm
              rw [hjoin] at I2
              have hunit : ∀ μ2 S2 w2, VRep μ2 S2 w2 (.tup []) (.tuple #[]) := fun μ2 S2 w2 => by simp only [VRep]; exact ⟨#[], rfl, by simp [VRepL]⟩
              obtain ⟨E, el, l, n0, hc1e, hor, hfl0⟩ := io_cases s.r r hset2 hset hio
              have hfl := hfl0 c5
              rcases hor with rfl | ⟨o', u', rfl, hdead, hmo, h0n⟩
              · exact hk _ w' μ S1 ⟨⟨Hd.le.refl μ, f1.keep.trans k12⟩, I2, hunit _ _ _⟩
              · have hlt0 : n0 < (argsV sh s.p x []).2.length := by
                  rcases Nat.lt_or_ge n0 (argsV sh s.p x []).2.length with h | h
                  · exact h
                  · rw [I0.fresh n0 h] at h0n; cases h0n
                have hc1n : hc1[n0]? = some (.row E el l) := by
                  rw [hc1e, List.getElem?_set_self (by simpa using hlt0)]
                obtain ⟨xs, hw, hl⟩ := Ic.obj n0 _ u' hc1n h0n
                have I3 := I2.revive (ob := .row E el l) hdead hmo ⟨xs, hw, RepL.mono (fun x c hx => Rep.flat el x c hfl hx) _ _ hl⟩ (fun b hb => by
                  obtain ⟨p1, p2⟩ := Ic.out n0 _ u' b hc1n h0n hb
                  refine ⟨⟨fun hs => p1 (hkp.sub b hs), ?_⟩, ?_⟩
                  · rcases p2 with h | h
                    · exact .inl (Nat.le_trans I1.base.size h)
                    · exact (g b h).1
                  · rintro ⟨i, x1, v1, e1, e2, e3⟩
                    have hlt := (I1.obj i x1 v1 e1 e2).lt e3
                    rcases p2 with h | h
                    · simp only at h; omega
                    · exact (g b h).2.2.2 ⟨i, x1, v1, e1, e2, e3⟩)
                exact hk _ w' μ S1 ⟨⟨Hd.le.refl μ, f1.keep.trans k12⟩, I3, hunit _ _ _⟩
            · cases hr
          · rename_i hsio
            rw [if_neg hsio] at hr
            simp only [Tr.run, Option.some.injEq, Prod.mk.injEq] at hr
            obtain ⟨rfl, rfl⟩ := hr
            obtain ⟨μ', S', hkp, hnone, Ic, hv'⟩ := hans
            cases hfz : s.fz with
            | true =>
              obtain ⟨I2, l1, l2, k12, hs2, hfr⟩ := after_call I1 (fun b hb => hb) g hkp hnone Ic (S2 := S') (.inl ⟨rfl, fun b hb => hb⟩)
              exact hk u w' _ S' ⟨⟨l1, f1.keep.trans k12⟩, I2, VRep.keep l2 (Keeps.refl _ _) _ _ hv'⟩
            | false =>
              rw [hfz] at c2
              simp only [Bool.false_or, Bool.and_eq_true] at c2
              obtain ⟨g1, _, g3⟩ := inject_flat s.r r s.own h1.length _ (okOwn_pair _ _ c2.2)
              obtain ⟨I2, l1, l2, k12, hs2, hfr⟩ := after_call I1 (fun b hb => hb) g hkp hnone Ic (S2 := S1) (.inr ⟨rfl, g3⟩)
              exact hk u w' _ S1 ⟨⟨l1, f1.keep.trans k12⟩, I2, VRep.flatc l2 _ _ (resV_flat _ _ g1) hv'⟩
        · cases hr
      · cases hr
    · cases hr
  · cases hr

/-- All contracts of a table hold. -/
def SigsOK (P : Program) (tb : Tabs) : Prop := ∀ fid rid i m sh s, tb.ct fid rid i = some (.sig m sh s) → Sound P m sh s

theorem opD_sound {P : Program} {tb : Tabs} (ht : TabOK P tb.tt) (hs : SigsOK P tb) {B : Base} {μ : Hd} {S : BSet} {w : World} {h : Hp} (I : Inv B μ S w h) {e : Env} {a : Act} (he : VRepL μ S w e a.tmps.toList) {fid rid i : Nat} {o : Oper} {v : V} {hn : Hp}
    (hr : (opD tb fid rid i o.op e h).run = some (v, hn)) : OpNew P B o a μ S w h v hn := by
  unfold opD at hr
  split at hr
  · rename_i f args argTypes ho
    exact callN_sound (tb := tb) I he ho (fun m sh s hc => hs fid rid i m sh s hc) hr
  · split at hr
    · cases hr
    · exact opN_sound ht I he hr

theorem opV_sound {P : Program} {tb : Tabs} (ht : TabOK P tb.tt) (hs : SigsOK P tb) {B : Base} {μ : Hd} {S : BSet} {w : World} {h : Hp} (I : Inv B μ S w h) {e : Env} {a : Act} (he : VRepL μ S w e a.tmps.toList) {fid rid i : Nat} {o : Oper} {v : V} {h' : Hp}
    (hr : (opV tb fid rid i o.op e h).run = some (v, h')) : OpDoes P B o a μ S w v h' := by
  have mapped : ∀ {t : Tr (V × Hp)}, (t.map fun x => (x.1, h ++ x.2)).run = some (v, h') → ∃ hn, t.run = some (v, hn) ∧ h' = h ++ hn := by
    intro t hq
    rw [Tr.run_map] at hq
    cases ht' : t.run with
    | none => rw [ht'] at hq; cases hq
    | some p =>
      rw [ht'] at hq
      cases hq
      exact ⟨p.2, rfl, rfl⟩
  unfold opV at hr
  split at hr
  · rename_i f args argTypes ho
    split at hr
    · obtain ⟨hn, h1, rfl⟩ := mapped hr
      exact (callN_sound (tb := tb) I he ho (fun m sh s hc => hs fid rid i m sh s hc) h1).does I
    · exact callW_sound (tb := tb) I he ho (fun m sh s hc => hs fid rid i m sh s hc) hr
  · split at hr
    · exact opW_sound ht I he hr
    · obtain ⟨hn, h1, rfl⟩ := mapped hr
      exact (opN_sound ht I he h1).does I

end X
end Go.Proofs.YtjnfmjeiceiciaaGreat

/-
Regions in their order.
-/
namespace Go.Proofs.YtjnfmjeiceiciaaGreat
namespace X
open Go Go.RowKit
set_option linter.unusedVariables false
set_option linter.unusedSimpArgs false
set_option linter.unnecessarySimpa false
set_option linter.unusedSectionVars false

theorem VRepL.set {μ : Hd} {S : BSet} {w : World} : ∀ (vs : List V) (us : List Value) (i : Nat) (v : V) (u : Value), VRepL μ S w vs us → VRep μ S w v u → VRepL μ S w (vs.set i v) (us.set i u)
  | [], us, i, v, u, h, _ => by simp only [VRepL] at h; subst h; simp [VRepL]
  | x :: vs, us, 0, v, u, h, hv => by
    simp only [VRepL] at h
    obtain ⟨y, r, rfl, h1, h2⟩ := h
    simp only [List.set_cons_zero, VRepL]
    exact ⟨u, r, rfl, hv, h2⟩
  | x :: vs, us, i + 1, v, u, h, hv => by
    simp only [VRepL] at h
    obtain ⟨y, r, rfl, h1, h2⟩ := h
    simp only [List.set_cons_succ, VRepL]
    exact ⟨y, r.set i u, rfl, h1, VRepL.set vs r i v u h2 hv⟩

theorem put_rep {μ : Hd} {S : BSet} {w : World} {e : Env} {a : Act} (he : VRepL μ S w e a.tmps.toList) {v : V} {u : Value} (hv : VRep μ S w v u) (d : Option Tmp) : VRepL μ S w (put e d v) (a.put d u).tmps.toList := by
  cases d with
  | none => exact he
  | some d => simpa [put, Act.put] using VRepL.set _ _ d v u he hv

theorem put_defers (a : Act) (d : Option Tmp) (u : Value) : (a.put d u).defers = a.defers := by cases d <;> rfl

/-- A bool that is known. -/
theorem know_rep {μ : Hd} {S : BSet} {w : World} {e : Env} {us : List Value} (he : VRepL μ S w e us) {t : Nat} {b : Bool} (ht : e.getD t .undef = .dat .bool b) : VRepL μ S w (e.set t (.kb b)) us := by
  have h1 : e[t]? = some (.dat .bool b) := by
    rw [List.getD_eq_getElem?_getD] at ht
    cases h : e[t]? with
    | none => rw [h] at ht; simp at ht
    | some v => rw [h] at ht; simp at ht; rw [ht]
  obtain ⟨u, h2, h3⟩ := VRepL.get e us he t _ h1
  have := VRepL.set e us t (.kb b) u he (by simp only [VRep]; exact vrep_bool.1 h3)
  have e2 : us.set t u = us := by
    apply List.ext_getElem?
    intro j
    rw [List.getElem?_set]
    split
    · rename_i hj; subst hj
      split
      · exact h2.symm
      · rename_i hn; rw [List.getElem?_eq_none (by omega)]
    · rfl
  rw [e2] at this
  exact this

theorem slot_rep {μ : Hd} {S : BSet} {w : World} {e : Env} {us : List Value} (he : VRepL μ S w e us) {t : Nat} {v : V} (ht : e.getD t .undef = v) (hv : v ≠ .undef) : ∃ u, us[t]? = some u ∧ VRep μ S w v u := by
  rw [List.getD_eq_getElem?_getD] at ht
  cases h : e[t]? with
  | none => rw [h] at ht; simp at ht; exact absurd ht.symm hv
  | some v' => rw [h] at ht; simp at ht; subst ht; exact VRepL.get e us he t _ h

/-- What a guard reads. -/
theorem wanted_guard {ops : Array Oper} {o : Oper} {tmps : Array Value} {j : Nat} {want : Bool} (hg : o.guard = some (j, want)) {t : Nat} (ht : gslot ops.toList j = some t) :
    Region.wanted o (yielded ops tmps) = ((match tmps[t]? with | some (.bool b) => some b | _ => none) == some want) := by
  unfold Region.wanted
  rw [hg]
  simp only
  congr 1
  unfold yielded
  unfold gslot at ht
  simp only [Array.getElem?_toList] at ht
  rw [ht]
  rfl

theorem opsV_sound {P : Program} {tb : Tabs} (ht : TabOK P tb.tt) (hs : SigsOK P tb) {B : Base} {fid rid : Nat} {ops : Array Oper} {Q : Exit → Act → World → Prop} {e' : Env} {h' : Hp} {S0 : BSet} {w0 : World} {df : List Deferred}
    (hQ : ∀ a w μ S, a.defers = df → Keeps S0 S w0 w → Inv B μ S w h' → VRepL μ S w e' a.tmps.toList → Q .normal a w) :
    ∀ (os : List Oper) (i : Nat) (e : Env) (h : Hp) (μ : Hd) (S : BSet) (a : Act) (w : World), ops.toList.drop i = os → (opsV tb fid rid ops.toList i os e h).run = some (e', h') → Inv B μ S w h → VRepL μ S w e a.tmps.toList →
      a.defers = df → Keeps S0 S w0 w → wpOps P ops Q (List.range' i os.length) a w
  | [], i, e, h, μ, S, a, w, hd, hr, I, he, hdf, hk => by
    simp only [opsV, Tr.run, Option.some.injEq, Prod.mk.injEq] at hr
    obtain ⟨rfl, rfl⟩ := hr
    exact hQ a w μ S hdf hk I he
  | o :: os, i, e, h, μ, S, a, w, hd, hr, I, he, hdf, hk => by
    have hoi : ops[i]? = some o := by
      have : (ops.toList.drop i)[0]? = some o := by rw [hd]; rfl
      rw [List.getElem?_drop] at this
      simpa using this
    have hd' : ops.toList.drop (i + 1) = os := by
      rw [← List.drop_drop, hd]; rfl
    have ih := fun e h μ S a w => opsV_sound (fid := fid) (rid := rid) ht hs hQ os (i + 1) e h μ S a w hd'
    simp only [List.length_cons, List.range'_succ, wpOps, hoi]
    -- carried out
    have yes : ∀ e2, VRepL μ S w e2 a.tmps.toList → ((opV tb fid rid i o.op e2 h).bnd fun x => opsV tb fid rid ops.toList (i + 1) os (put e2 o.dst x.1) x.2).run = some (e', h') → o.wp P a w (wpOps P ops Q (List.range' (i + 1) os.length)) Q := by
      intro e2 he2 hr
      rw [Tr.run_bnd] at hr
      cases hq : (opV tb fid rid i o.op e2 h).run with
      | none => rw [hq] at hr; cases hr
      | some p =>
        rw [hq] at hr
        simp only [Option.bind_some] at hr
        exact opV_sound ht hs I he2 (v := p.1) (h' := p.2) hq _ _ fun u w' μ' S' st => ih _ _ μ' S' _ w' hr st.inv (put_rep (VRepL.keep st.step.pre st.step.keep _ _ he2) st.rep _) (by rw [put_defers]; exact hdf) (hk.trans st.step.keep)
    -- passed over
    have no : ∀ e2, VRepL μ S w e2 a.tmps.toList → (opsV tb fid rid ops.toList (i + 1) os (put e2 o.dst .skp) h).run = some (e', h') → wpOps P ops Q (List.range' (i + 1) os.length) (a.put o.dst undef) w := by
      intro e2 he2 hr
      exact ih _ _ μ S _ w hr I (put_rep he2 (by simp only [VRep]) _) (by rw [put_defers]; exact hdf) hk
    simp only [opsV] at hr
    split at hr
    · rename_i hg
      rw [if_pos (by simp [Region.wanted, hg])]
      exact .inl (yes e he hr)
    · rename_i j want hg
      split at hr
      · rename_i t htj
        have hw := wanted_guard (tmps := a.tmps) hg htj
        split at hr
        · rename_i b hb
          obtain ⟨u, hu, hv⟩ := slot_rep he hb (by simp)
          simp only [VRep] at hv
          simp only [Array.getElem?_toList] at hu
          rw [hu, hv] at hw
          simp only at hw
          split at hr
          · rename_i hbw
            rw [if_pos (by rw [hw]; simpa using hbw)]
            exact .inl (yes e he hr)
          · rename_i hbw
            rw [if_neg (by rw [hw]; simpa using hbw)]
            exact no e he hr
        · rename_i b hb
          obtain ⟨u, hu, hv⟩ := slot_rep he hb (by simp)
          simp only [Array.getElem?_toList] at hu
          rw [hu, vrep_bool.1 hv] at hw
          simp only at hw
          have hkn := know_rep he hb
          cases want with
          | true =>
            simp only at hr
            rcases Tr.run_ite hr with ⟨rfl, hr⟩ | ⟨rfl, hr⟩
            · rw [if_pos (by rw [hw]; rfl)]
              exact .inl (yes _ hkn hr)
            · rw [if_neg (by rw [hw]; decide)]
              exact no _ hkn hr
          | false =>
            simp only at hr
            rcases Tr.run_ite hr with ⟨rfl, hr⟩ | ⟨rfl, hr⟩
            · rw [if_neg (by rw [hw]; decide)]
              exact no _ hkn hr
            · rw [if_pos (by rw [hw]; rfl)]
              exact .inl (yes _ hkn hr)
        · rename_i hb
          obtain ⟨u, hu, hv⟩ := slot_rep he hb (by simp)
          simp only [VRep] at hv
          simp only [Array.getElem?_toList] at hu
          rw [hu, hv] at hw
          simp only [undef] at hw
          rw [if_neg (by rw [hw]; simp)]
          exact no e he hr
        · cases hr
      · cases hr

end X
end Go.Proofs.YtjnfmjeiceiciaaGreat

/-
Regions whose order is open: what the listed order tells.
-/
namespace Go.Proofs.YtjnfmjeiceiciaaGreat
namespace X
open Go Go.RowKit
set_option linter.unusedVariables false
set_option linter.unusedSimpArgs false
set_option linter.unnecessarySimpa false
set_option linter.unusedSectionVars false

/-- Two forms of one value. -/
def Eqv (v v' : V) : Prop := ∀ μ S w u, VRep μ S w v u ↔ VRep μ S w v' u
theorem Eqv.refl (v : V) : Eqv v v := fun _ _ _ _ => Iff.rfl
theorem Eqv.symm {a b : V} (h : Eqv a b) : Eqv b a := fun μ S w u => (h μ S w u).symm
theorem Eqv.trans {a b c : V} (h : Eqv a b) (k : Eqv b c) : Eqv a c := fun μ S w u => (h μ S w u).trans (k μ S w u)
theorem Eqv.known {b : Bool} : Eqv (.dat .bool b) (.kb b) := fun μ S w u => by rw [vrep_bool]; simp only [VRep]

/-- An operation of the listed order: the frame and the heap before it, who made what, what it yields. -/
structure St where
  e1 : Env
  h : Hp
  ow : List Nat
  r : Option (V × Hp)

def St.val (s : St) : V := match s.r with | some p => p.1 | none => .skp
def St.new (s : St) : Hp := match s.r with | some p => p.2 | none => []

/-- What the guard says. -/
def GuardOK (all : List Oper) (o : Oper) (e : Env) (yes : Bool) : Prop :=
  match o.guard with
  | none => yes = true
  | some (j, want) => ∃ t, gslot all j = some t ∧ e.getD t .undef ≠ .undef ∧ ∀ μ S w u, VRep μ S w (e.getD t .undef) u → ((match u with | .bool b => some b | _ => none) == some want) = yes

/-- A slot's value before operation k: what an operation ahead of it yielded, or what was there. -/
def slotOK (os : List Oper) (T : List St) (e e1 : Env) (k t : Nat) : Prop :=
  (∃ j, j < k ∧ ∃ o s, os[j]? = some o ∧ T[j]? = some s ∧ o.dst = some t ∧ Eqv (e1.getD t .undef) s.val) ∨
  ((∀ j, j < k → ∀ o, os[j]? = some o → o.dst ≠ some t) ∧ Eqv (e1.getD t .undef) (e.getD t .undef))

structure TF (tb : Tabs) (fid rid : Nat) (all : List Oper) (ws : List Nat) (m i : Nat) (os : List Oper) (T : List St) (e : Env) (h : Hp) (ow : List Nat) (e' : Env) (h' : Hp) (ow' : List Nat) : Prop where
  len : T.length = os.length
  hpre : h <+: h'
  opre : ow <+: ow'
  lens : h'.length + ow.length = h.length + ow'.length
  each : ∀ (k : Nat) (o : Oper) (s : St), os[k]? = some o → T[k]? = some s →
    h <+: s.h ∧ (s.h ++ s.new) <+: h' ∧ (s.ow ++ List.replicate s.new.length (i + k)) <+: ow' ∧ s.h.length + ow.length = h.length + s.ow.length ∧ s.e1.length = e.length ∧ GuardOK all o s.e1 s.r.isSome ∧
    (∀ v hn, s.r = some (v, hn) → (opD tb fid rid (i + k) o.op s.e1 (maskH m s.ow (ws.getD (i + k) 0) s.h)).run = some (v, hn)) ∧ ∀ t, t < e.length → slotOK os T e s.e1 k t
  last : e'.length = e.length ∧ ∀ t, t < e.length → slotOK os T e e' os.length t
  mono : ∀ (j k : Nat) (s s' : St), T[j]? = some s → T[k]? = some s' → j < k → s.h.length + s.new.length ≤ s'.h.length
  cover : ∀ x : Nat, h.length ≤ x → x < h'.length → ∃ (k : Nat) (s : St), T[k]? = some s ∧ s.h.length ≤ x ∧ x < s.h.length + s.new.length

theorem TF.at {tb : Tabs} {fid rid : Nat} {all : List Oper} {ws : List Nat} {m i : Nat} {os : List Oper} {T : List St} {e : Env} {h : Hp} {ow : List Nat} {e' : Env} {h' : Hp} {ow' : List Nat} (F : TF tb fid rid all ws m i os T e h ow e' h' ow') {k : Nat} {s : St} (h1 : T[k]? = some s) : ∃ o, os[k]? = some o := by
  have : k < T.length := by obtain ⟨h, _⟩ := List.getElem?_eq_some_iff.1 h1; exact h
  exact ⟨os[k]'(by rw [← F.len]; exact this), List.getElem?_eq_getElem _⟩

theorem put_get {e : Env} {d : Option Tmp} {v : V} {t : Nat} (ht : t < e.length) : (d = some t ∧ (put e d v).getD t .undef = v) ∨ (d ≠ some t ∧ (put e d v).getD t .undef = e.getD t .undef) := by
  cases d with
  | none => exact .inr ⟨by simp, rfl⟩
  | some d =>
    by_cases hd : d = t
    · subst hd
      exact .inl ⟨rfl, by simp [put, List.getD_eq_getElem?_getD, ht]⟩
    · refine .inr ⟨by simpa using hd, ?_⟩
      simp [put, List.getD_eq_getElem?_getD, hd]

theorem put_length (e : Env) (d : Option Tmp) (v : V) : (put e d v).length = e.length := by cases d <;> simp [put]

theorem TF.cons {tb : Tabs} {fid rid : Nat} {all : List Oper} {ws : List Nat} {m i : Nat} {o : Oper} {os : List Oper} {T : List St} {e e1 : Env} {h : Hp} {ow : List Nat} {e' : Env} {h' : Hp} {ow' : List Nat} {r : Option (V × Hp)}
    (hl : e1.length = e.length) (hv : ∀ t, Eqv (e1.getD t .undef) (e.getD t .undef)) (hg : GuardOK all o e1 r.isSome) (hrun : ∀ v hn, r = some (v, hn) → (opD tb fid rid i o.op e1 (maskH m ow (ws.getD i 0) h)).run = some (v, hn))
    (F : TF tb fid rid all ws m (i + 1) os T (put e1 o.dst (St.val ⟨e1, h, ow, r⟩)) (h ++ St.new ⟨e1, h, ow, r⟩) (ow ++ List.replicate (St.new ⟨e1, h, ow, r⟩).length i) e' h' ow') :
    TF tb fid rid all ws m i (o :: os) (⟨e1, h, ow, r⟩ :: T) e h ow e' h' ow' := by
  have hpl := put_length e1 o.dst (St.val ⟨e1, h, ow, r⟩)
  have slot1 : ∀ {e2 : Env} {k t : Nat}, t < e.length → slotOK os T (put e1 o.dst (St.val ⟨e1, h, ow, r⟩)) e2 k t → slotOK (o :: os) (⟨e1, h, ow, r⟩ :: T) e e2 (k + 1) t := by
    intro e2 k t ht hs
    rcases hs with ⟨j, hj, o', s', h1, h2, h3, h4⟩ | ⟨h1, h2⟩
    · exact .inl ⟨j + 1, by omega, o', s', by simpa using h1, by simpa using h2, h3, h4⟩
    · rcases put_get (e := e1) (d := o.dst) (v := St.val ⟨e1, h, ow, r⟩) (t := t) (by omega) with ⟨p1, p2⟩ | ⟨p1, p2⟩
      · rw [p2] at h2
        exact .inl ⟨0, by omega, o, _, rfl, rfl, p1, h2⟩
      · rw [p2] at h2
        refine .inr ⟨fun j hj o' ho' => ?_, h2.trans (hv t)⟩
        cases j with
        | zero => simp at ho'; subst ho'; exact p1
        | succ j => exact h1 j (by omega) o' (by simpa using ho')
  have hpre : h <+: h' := (List.prefix_append _ _).trans F.hpre
  have hlens := F.lens
  simp only [List.length_append, List.length_replicate] at hlens
  refine ⟨by simp [F.len], hpre, (List.prefix_append _ _).trans F.opre, by omega, fun k o' s' h1 h2 => ?_, ⟨by rw [F.last.1, hpl, hl], fun t ht => ?_⟩, fun j k s s' h1 h2 hjk => ?_, fun x h1 h2 => ?_⟩
  · cases k with
    | zero =>
      simp only [List.getElem?_cons_zero, Option.some.injEq] at h1 h2
      subst h1; subst h2
      refine ⟨List.prefix_refl _, F.hpre, F.opre, rfl, hl, hg, hrun, fun t ht => .inr ⟨fun j hj => by omega, hv t⟩⟩
    | succ k =>
      simp only [List.getElem?_cons_succ] at h1 h2
      obtain ⟨a1, a2, a3, a4, a5, a6, a7, a8⟩ := F.each k o' s' h1 h2
      simp only [List.length_append, List.length_replicate] at a4
      refine ⟨(List.prefix_append _ _).trans a1, a2, by rw [show i + (k + 1) = i + 1 + k by omega]; exact a3, by omega, by rw [a5, hpl, hl], a6, by rw [show i + (k + 1) = i + 1 + k by omega]; exact a7, fun t ht => slot1 ht (a8 t (by rw [hpl, hl]; exact ht))⟩
  · exact slot1 ht (F.last.2 t (by rw [hpl, hl]; exact ht))
  · cases k with
    | zero => omega
    | succ k =>
      simp only [List.getElem?_cons_succ] at h2
      obtain ⟨o', ho'⟩ := F.at h2
      cases j with
      | zero =>
        simp only [List.getElem?_cons_zero, Option.some.injEq] at h1
        subst h1
        have := (F.each k o' s' ho' h2).1.length_le
        simpa using this
      | succ j => exact F.mono j k s s' (by simpa using h1) h2 (by omega)
  · by_cases hx : x < h.length + (St.new ⟨e1, h, ow, r⟩).length
    · exact ⟨0, _, rfl, h1, hx⟩
    · obtain ⟨k, s, a1, a2, a3⟩ := F.cover x (by simp; omega) h2
      exact ⟨k + 1, s, by simpa using a1, a2, a3⟩

theorem Eqv.known_all {e : Env} {t : Nat} {b : Bool} (ht : e.getD t .undef = .dat .bool b) : ∀ t', Eqv ((e.set t (.kb b)).getD t' .undef) (e.getD t' .undef) := fun t' => by
  by_cases h : t = t'
  · subst h
    rw [ht]
    have hlt : t < e.length := by
      rcases Nat.lt_or_ge t e.length with h | h
      · exact h
      · rw [List.getD_eq_getElem?_getD, List.getElem?_eq_none h] at ht; simp at ht
    simp only [List.getD_eq_getElem?_getD, List.getElem?_set_self hlt, Option.getD_some]
    exact Eqv.known.symm
  · simp only [List.getD_eq_getElem?_getD, List.getElem?_set_ne h]
    exact Eqv.refl _

theorem draw_trace {tb : Tabs} {fid rid : Nat} {all : List Oper} {ws : List Nat} {m : Nat} {e' : Env} {h' : Hp} : ∀ (os : List Oper) (i : Nat) (e : Env) (h : Hp) (ow : List Nat), (drawV tb fid rid all ws m i os e h ow).run = some (e', h') →
    ∃ T ow', TF tb fid rid all ws m i os T e h ow e' h' ow'
  | [], i, e, h, ow, hr => by
    simp only [drawV, Tr.run, Option.some.injEq, Prod.mk.injEq] at hr
    obtain ⟨rfl, rfl⟩ := hr
    exact ⟨[], ow, rfl, List.prefix_refl _, List.prefix_refl _, rfl, (fun k o s h1 _ => by simp at h1), ⟨rfl, fun t ht => .inr ⟨fun j hj => by simp at hj, Eqv.refl _⟩⟩, (fun j k s s' h1 _ _ => by simp at h1), fun x h1 h2 => by omega⟩
  | o :: os, i, e, h, ow, hr => by
    -- carried out
    have yes : ∀ e1 : Env, e1.length = e.length → (∀ t, Eqv (e1.getD t .undef) (e.getD t .undef)) → GuardOK all o e1 true →
        ((opD tb fid rid i o.op e1 (maskH m ow (ws.getD i 0) h)).bnd fun x => drawV tb fid rid all ws m (i + 1) os (put e1 o.dst x.1) (h ++ x.2) (ow ++ List.replicate x.2.length i)).run = some (e', h') →
        ∃ T ow', TF tb fid rid all ws m i (o :: os) T e h ow e' h' ow' := by
      intro e1 hl hv hg hq
      rw [Tr.run_bnd] at hq
      cases hop : (opD tb fid rid i o.op e1 (maskH m ow (ws.getD i 0) h)).run with
      | none => rw [hop] at hq; cases hq
      | some p =>
        rw [hop] at hq
        simp only [Option.bind_some] at hq
        obtain ⟨T, ow', F⟩ := draw_trace os (i + 1) _ _ _ hq
        exact ⟨_, ow', TF.cons (r := some p) hl hv hg (fun v hn hp => by cases hp; exact hop) F⟩
    -- passed over
    have no : ∀ e1 : Env, e1.length = e.length → (∀ t, Eqv (e1.getD t .undef) (e.getD t .undef)) → GuardOK all o e1 false → (drawV tb fid rid all ws m (i + 1) os (put e1 o.dst .skp) h ow).run = some (e', h') →
        ∃ T ow', TF tb fid rid all ws m i (o :: os) T e h ow e' h' ow' := by
      intro e1 hl hv hg hq
      obtain ⟨T, ow', F⟩ := draw_trace os (i + 1) _ _ _ hq
      refine ⟨⟨e1, h, ow, none⟩ :: T, ow', TF.cons (r := none) hl hv hg (fun v hn hp => by cases hp) ?_⟩
      simpa [St.val, St.new] using F
    have self : ∀ t, Eqv (e.getD t .undef) (e.getD t .undef) := fun t => Eqv.refl _
    simp only [drawV] at hr
    split at hr
    · rename_i hg
      exact yes e rfl self (by simp [GuardOK, hg]) hr
    · rename_i j want hg
      split at hr
      · rename_i t htj
        split at hr
        · rename_i b hb
          have gk : GuardOK all o e (b == want) := by
            simp only [GuardOK, hg]
            refine ⟨t, htj, by rw [hb]; simp, fun μ S w u hu => ?_⟩
            rw [hb] at hu
            simp only [VRep] at hu
            subst hu
            simp
          split at hr
          · rename_i hbw
            rw [hbw] at gk
            exact yes e rfl self gk hr
          · rename_i hbw
            have : (b == want) = false := by simpa using hbw
            rw [this] at gk
            exact no e rfl self gk hr
        · rename_i b hb
          have hlt : t < e.length := by
            rcases Nat.lt_or_ge t e.length with h | h
            · exact h
            · rw [List.getD_eq_getElem?_getD, List.getElem?_eq_none h] at hb; simp at hb
          have hkn := Eqv.known_all hb
          have hget : (e.set t (.kb b)).getD t .undef = .kb b := by simp [List.getD_eq_getElem?_getD, hlt]
          have gk : ∀ b', b = b' → GuardOK all o (e.set t (.kb b')) (b' == want) := by
            rintro _ rfl
            simp only [GuardOK, hg]
            refine ⟨t, htj, by rw [hget]; simp, fun μ S w u hu => ?_⟩
            rw [hget] at hu
            simp only [VRep] at hu
            subst hu
            simp
          cases want with
          | true =>
            simp only at hr
            rcases Tr.run_ite hr with ⟨rfl, hr⟩ | ⟨rfl, hr⟩
            · exact yes _ (by simp) hkn (gk true rfl) hr
            · exact no _ (by simp) hkn (gk false rfl) hr
          | false =>
            simp only at hr
            rcases Tr.run_ite hr with ⟨rfl, hr⟩ | ⟨rfl, hr⟩
            · exact no _ (by simp) hkn (gk true rfl) hr
            · exact yes _ (by simp) hkn (gk false rfl) hr
        · rename_i hb
          refine no e rfl self ?_ hr
          simp only [GuardOK, hg]
          refine ⟨t, htj, by rw [hb]; simp, fun μ S w u hu => ?_⟩
          rw [hb] at hu
          simp only [VRep] at hu
          subst hu
          simp [undef]
        · cases hr
      · cases hr

end X
end Go.Proofs.YtjnfmjeiceiciaaGreat

/-
Regions whose order is open: memory and frame when some of the operations have been carried out.
-/
namespace Go.Proofs.YtjnfmjeiceiciaaGreat
namespace X
open Go Go.RowKit
set_option linter.unusedVariables false
set_option linter.unusedSimpArgs false
set_option linter.unnecessarySimpa false
set_option linter.unusedSectionVars false

/-! ### The order -/

theorem orderB1_spec {all : List Oper} {w : Nat} {y : Oper} : ∀ (l : List Oper) (i : Nat), orderB1 all w y i l = true → ∀ (j : Nat) (x : Oper), l[j]? = some x → (w.testBit (i + j) = true ∨ apartB all x y = true) ∧ ndst x y = true
  | [], i, h, j, x, hj => by simp at hj
  | z :: l, i, h, j, x, hj => by
    simp only [orderB1, Bool.and_eq_true, Bool.or_eq_true] at h
    cases j with
    | zero => simp at hj; subst hj; exact h.1
    | succ j =>
      have := orderB1_spec l (i + 1) h.2 j x (by simpa using hj)
      rw [show i + 1 + j = i + (j + 1) by omega] at this
      exact this

theorem waitsL_take : ∀ (os : List Oper) (bs : List Nat), (waitsL bs os).take bs.length = bs ∧ (waitsL bs os).length = bs.length + os.length
  | [], bs => by simp [waitsL]
  | o :: os, bs => by
    obtain ⟨h1, h2⟩ := waitsL_take os (bs ++ [waits bs o])
    simp only [waitsL]
    refine ⟨?_, by rw [h2]; simp; omega⟩
    have := congrArg (List.take bs.length) h1
    rw [List.take_take] at this
    simp only [List.length_append, List.length_singleton] at this
    rw [Nat.min_eq_left (by omega)] at this
    rw [this, List.take_append_of_le_length (Nat.le_refl _), List.take_length]

theorem order_spec {all : List Oper} : ∀ (os : List Oper) (bs : List Nat) (before : List Oper), orderB all bs before os = true → bs.length = before.length → ∀ (k : Nat) (o : Oper), os[k]? = some o →
    (∀ x ∈ o.after, Region.binds .any x = true → x.on < before.length + k) ∧ (waitsL bs os).getD (before.length + k) 0 = waits ((waitsL bs os).take (before.length + k)) o ∧
    ∀ (i : Nat) (x : Oper), (before ++ os)[i]? = some x → i < before.length + k → (((waitsL bs os).getD (before.length + k) 0).testBit i = true ∨ apartB all x o = true) ∧ ndst x o = true
  | [], bs, before, h, hl, k, o, hk => by simp at hk
  | y :: os, bs, before, h, hl, k, o, hk => by
    simp only [orderB, Bool.and_eq_true, List.all_eq_true, Bool.or_eq_true, Bool.not_eq_true', decide_eq_true_eq] at h
    obtain ⟨⟨h1, h2⟩, h3⟩ := h
    obtain ⟨ht, hlen⟩ := waitsL_take os (bs ++ [waits bs y])
    cases k with
    | zero =>
      simp only [List.getElem?_cons_zero, Option.some.injEq] at hk
      subst hk
      have hw : (waitsL bs (y :: os)).getD (before.length + 0) 0 = waits bs y := by
        simp only [waitsL, Nat.add_zero]
        have : (waitsL (bs ++ [waits bs y]) os)[before.length]? = some (waits bs y) := by
          have h5 : ((waitsL (bs ++ [waits bs y]) os).take (bs ++ [waits bs y]).length)[before.length]? = some (waits bs y) := by
            rw [ht, ← hl]; simp
          rw [List.getElem?_take] at h5
          split at h5
          · exact h5
          · cases h5
        rw [List.getD_eq_getElem?_getD, this]; rfl
      have htk : (waitsL bs (y :: os)).take (before.length + 0) = bs := by
        rw [Nat.add_zero, ← hl]; exact (waitsL_take (y :: os) bs).1
      refine ⟨fun x hx hb => ?_, by rw [hw, htk], fun i x hi hlt => ?_⟩
      · rcases h1 x (by simpa using hx) with h | h
        · rw [h] at hb; cases hb
        · simpa using h
      · rw [hw]
        rw [List.getElem?_append_left (by omega)] at hi
        have := orderB1_spec before 0 h2 i x hi
        rwa [Nat.zero_add] at this
    | succ k =>
      have := order_spec os (bs ++ [waits bs y]) (before ++ [y]) h3 (by simp [hl]) k o (by simpa using hk)
      simp only [List.length_append, List.length_singleton, List.append_assoc, List.singleton_append, show before.length + 1 + k = before.length + (k + 1) by omega] at this
      exact this

theorem waits_bit {bs : List Nat} {o : Oper} {j : Nat} (h : (waits bs o).testBit j = true) : ∃ x ∈ o.after, Region.binds .any x = true ∧ (x.on = j ∨ (bs.getD x.on 0).testBit j = true) := by
  unfold waits at h
  have key : ∀ (l : List Edge) (s : Nat), (l.foldl (fun s x => if Region.binds .any x then s ||| 2 ^ x.on ||| bs.getD x.on 0 else s) s).testBit j = true → s.testBit j = true ∨ ∃ x ∈ l, Region.binds .any x = true ∧ (x.on = j ∨ (bs.getD x.on 0).testBit j = true) := by
    intro l
    induction l with
    | nil => intro s h; exact .inl h
    | cons x l ih =>
      intro s h
      simp only [List.foldl_cons] at h
      rcases ih _ h with h | ⟨y, hy, h1⟩
      · split at h
        · rename_i hb
          rw [Nat.testBit_or, Nat.testBit_or, Bool.or_eq_true, Bool.or_eq_true] at h
          rcases h with (h | h) | h
          · exact .inl h
          · rw [Nat.testBit_two_pow] at h
            exact .inr ⟨x, by simp, hb, .inl (by simpa using h)⟩
          · exact .inr ⟨x, by simp, hb, .inr h⟩
        · exact .inl h
      · exact .inr ⟨y, by simp [hy], h1⟩
  rcases key _ 0 h with h | ⟨x, hx, h1⟩
  · simp at h
  · exact ⟨x, by simpa using hx, h1⟩

/-! ### Memory when some have been carried out -/

def Hd.cut (μ : Hd) (n : Nat) : Hd := fun k => if k < n then μ k else none
theorem Hd.cut_le (μ : Hd) (n : Nat) : (μ.cut n).le μ := fun o v h => by
  unfold Hd.cut at h
  split at h
  · exact h
  · cases h
theorem Hd.cut_mono {μ μ' : Hd} {n n' : Nat} (h : μ.le μ') (hn : n ≤ n') : (μ.cut n).le (μ'.cut n') := fun o v e => by
  unfold Hd.cut at e ⊢
  split at e
  · rw [if_pos (by omega)]; exact h _ _ e
  · cases e

/-- The number of objects behind operation j. -/
def lev (T : List St) (j : Nat) : Nat := match T[j]? with | some s => s.h.length + s.new.length | none => 0
/-- .. when object x had been made. -/
def levx (T : List St) (ow' : List Nat) (m x : Nat) : Nat := if x < m then m else match ow'[x - m]? with | some j => lev T j | none => 0

/-- Objects that are there. -/
def HL (h' : Hp) (ow' : List Nat) (m : Nat) (L : Nat → Bool) (x : Nat) (ob : Ob) : Prop := h'[x]? = some ob ∧ (x < m ∨ ∃ j, ow'[x - m]? = some j ∧ L j = true)

structure JM (B : Base) (T : List St) (h' : Hp) (ow' : List Nat) (m : Nat) (L : Nat → Bool) (μ : Hd) (S : BSet) (w : World) : Prop where
  base : Frame0 B w
  dom : ∀ x ob, HL h' ow' m L x ob → ob ≠ .dead → ∃ u, μ x = some u
  non : ∀ x, m ≤ x → (∀ j, ow'[x - m]? = some j → L j = false) → μ x = none
  obj : ∀ x ob u, HL h' ow' m L x ob → μ x = some u → ORep (μ.cut (levx T ow' m x)) S w ob u
  sep : ∀ x x' ob ob' u u' b, HL h' ow' m L x ob → HL h' ow' m L x' ob' → μ x = some u → μ x' = some u' → ownB ob u = some b → ownB ob' u' = some b → x = x'
  out : ∀ x ob u b, HL h' ow' m L x ob → μ x = some u → ownB ob u = some b → ¬ S b ∧ B.ours b
  lt : ∀ b, S b → b < w.heap.size
  sub : ∀ b, S b → B.S0 b ∨ B.ours b

theorem mask_get {m w : Nat} {ow : List Nat} {h : Hp} (hm : m ≤ h.length) {x : Nat} {ob : Ob} (hx : (maskH m ow w h)[x]? = some ob) (hd : ob ≠ .dead) : h[x]? = some ob ∧ (x < m ∨ (m ≤ x ∧ ∃ j, ow[x - m]? = some j ∧ w.testBit j = true)) := by
  unfold maskH at hx
  have hl : (h.take m).length = m := by rw [List.length_take]; omega
  by_cases hxm : x < m
  · rw [List.getElem?_append_left (by omega), List.getElem?_take, if_pos hxm] at hx
    exact ⟨hx, .inl hxm⟩
  · rw [List.getElem?_append_right (by omega), hl, List.getElem?_zipWith] at hx
    cases h1 : (h.drop m)[x - m]? with
    | none => rw [h1] at hx; simp at hx
    | some ob1 =>
      cases h2 : ow[x - m]? with
      | none => rw [h1, h2] at hx; simp at hx
      | some j =>
        rw [h1, h2] at hx
        simp only [Option.some.injEq] at hx
        rw [List.getElem?_drop, show m + (x - m) = x by omega] at h1
        split at hx
        · rename_i hb
          subst hx
          exact ⟨h1, .inr ⟨by omega, j, rfl, hb⟩⟩
        · exact absurd hx.symm hd

theorem mask_length {m w : Nat} {ow : List Nat} {h : Hp} (hm : m ≤ h.length) (ho : h.length = m + ow.length) : (maskH m ow w h).length = h.length := by
  unfold maskH
  simp
  omega

theorem pre_eq {α : Type} {a b : List α} (h : a <+: b) {i : Nat} {x : α} (hx : a[i]? = some x) : b[i]? = some x := by
  obtain ⟨t, rfl⟩ := h
  rw [List.getElem?_append_left (by obtain ⟨h, _⟩ := List.getElem?_eq_some_iff.1 hx; exact h)]; exact hx

section
variable {tb : Tabs} {fid rid : Nat} {all : List Oper} {ws : List Nat} {os : List Oper} {T : List St} {e0 : Env} {h0 : Hp} {e' : Env} {h' : Hp} {ow' : List Nat} (F : TF tb fid rid all ws h0.length 0 os T e0 h0 [] e' h' ow')
 include F

theorem range_own {k : Nat} {s : St} (hk : T[k]? = some s) {x : Nat} (h1 : s.h.length ≤ x) (h2 : x < s.h.length + s.new.length) : h0.length ≤ x ∧ ow'[x - h0.length]? = some k := by
  obtain ⟨o, ho⟩ := F.at hk
  obtain ⟨a1, a2, a3, a4, _⟩ := F.each k o s ho hk
  simp only [List.length_nil, Nat.add_zero] at a4
  refine ⟨by omega, pre_eq a3 ?_⟩
  rw [List.getElem?_append_right (by omega), List.getElem?_replicate, if_pos (by omega), Nat.zero_add]

theorem own_range {x j : Nat} (hx : h0.length ≤ x) (ho : ow'[x - h0.length]? = some j) : ∃ s, T[j]? = some s ∧ s.h.length ≤ x ∧ x < s.h.length + s.new.length := by
  have hlt : x - h0.length < ow'.length := by obtain ⟨h, _⟩ := List.getElem?_eq_some_iff.1 ho; exact h
  have hl := F.lens
  simp only [List.length_nil, Nat.add_zero] at hl
  obtain ⟨k, s, h1, h2, h3⟩ := F.cover x hx (by omega)
  obtain ⟨_, h4⟩ := range_own F h1 h2 h3
  rw [ho] at h4
  cases h4
  exact ⟨s, h1, h2, h3⟩

/-- What an operation may know of memory. -/
theorem JM.mask {B : Base} {L : Nat → Bool} {μ : Hd} {S : BSet} {w : World} (J : JM B T h' ow' h0.length L μ S w) {k : Nat} {s : St} (hk : T[k]? = some s) {wk : Nat} (hw : ∀ j, wk.testBit j = true → L j = true ∧ j < k) :
    Inv B (μ.cut s.h.length) S w (maskH h0.length s.ow wk s.h) := by
  obtain ⟨o, ho⟩ := F.at hk
  obtain ⟨a1, a2, a3, a4, _⟩ := F.each k o s ho hk
  simp only [List.length_nil, Nat.add_zero] at a4
  have hm : h0.length ≤ s.h.length := by omega
  have hml : (maskH h0.length s.ow wk s.h).length = s.h.length := mask_length hm a4
  have hpre : s.h <+: h' := (List.prefix_append _ _).trans a2
  have opre : s.ow <+: ow' := (List.prefix_append _ _).trans a3
  have key : ∀ {x : Nat} {ob : Ob}, (maskH h0.length s.ow wk s.h)[x]? = some ob → ob ≠ .dead → HL h' ow' h0.length L x ob ∧ levx T ow' h0.length x ≤ s.h.length ∧ x < s.h.length := by
    intro x ob hx hd
    obtain ⟨h1, h2⟩ := mask_get hm hx hd
    have hxl : x < s.h.length := by obtain ⟨h, _⟩ := List.getElem?_eq_some_iff.1 h1; exact h
    rcases h2 with h2 | ⟨h2, j, h3, h4⟩
    · exact ⟨⟨pre_eq hpre h1, .inl h2⟩, by simp [levx, h2, hm], hxl⟩
    · obtain ⟨h5, h6⟩ := hw j h4
      have h7 := pre_eq opre h3
      refine ⟨⟨pre_eq hpre h1, .inr ⟨j, h7, h5⟩⟩, ?_, hxl⟩
      obtain ⟨sj, h8, _⟩ := own_range F h2 h7
      simp only [levx, show ¬ x < h0.length by omega, if_false, h7, lev, h8]
      exact F.mono j k sj s h8 hk h6
  have alive : ∀ {ob : Ob} {u : Value} {b : Nat}, ownB ob u = some b → ob ≠ .dead := by rintro ob u b h rfl; simp [ownB] at h
  have cutg : ∀ {x : Nat} {u : Value}, μ.cut s.h.length x = some u → μ x = some u := fun h => μ.cut_le _ _ _ h
  refine ⟨J.base, fun x ob h1 h2 => ?_, fun x hx => ?_, fun x ob u h1 h2 => ?_, fun x x' ob ob' u u' b h1 h2 h3 h4 h5 h6 => ?_, fun x ob u b h1 h2 h3 => ?_, J.lt, J.sub⟩
  · obtain ⟨p1, p2, p3⟩ := key h1 h2
    obtain ⟨u, hu⟩ := J.dom x ob p1 h2
    exact ⟨u, by simp [Hd.cut, p3, hu]⟩
  · rw [hml] at hx
    simp [Hd.cut, show ¬ x < s.h.length by omega]
  · by_cases hd : ob = .dead
    · subst hd; trivial
    · obtain ⟨p1, p2, p3⟩ := key h1 hd
      exact (J.obj x ob u p1 (cutg h2)).keep (Hd.cut_mono (Hd.le.refl μ) p2) (Keeps.refl S w) fun _ _ => rfl
  · exact J.sep x x' ob ob' u u' b (key h1 (alive h5)).1 (key h2 (alive h6)).1 (cutg h3) (cutg h4) h5 h6
  · exact J.out x ob u b (key h1 (alive h3)).1 (cutg h2) h3

theorem JM.start {B : Base} {μ : Hd} {S : BSet} {w : World} (I : Inv B μ S w h0) : JM B T h' ow' h0.length (fun _ => false) μ S w := by
  have key : ∀ {x : Nat} {ob : Ob}, HL h' ow' h0.length (fun _ => false) x ob → x < h0.length ∧ h0[x]? = some ob := by
    rintro x ob ⟨h1, h2 | ⟨j, _, h2⟩⟩
    · refine ⟨h2, ?_⟩
      have := List.getElem?_eq_getElem h2
      have h3 := pre_eq F.hpre this
      rw [h1] at h3
      rw [this]; exact h3.symm
    · cases h2
  have hcut : μ.cut h0.length = μ := by
    funext k
    unfold Hd.cut
    split
    · rfl
    · exact (I.fresh k (by omega)).symm
  refine ⟨I.base, fun x ob h1 h2 => I.dom x ob (key h1).2 h2, fun x hx _ => I.fresh x hx, fun x ob u h1 h2 => ?_, fun x x' ob ob' u u' b h1 h2 => I.sep x x' ob ob' u u' b (key h1).2 (key h2).2, fun x ob u b h1 => I.out x ob u b (key h1).2, I.lt, I.sub⟩
  have : levx T ow' h0.length x = h0.length := by simp [levx, (key h1).1]
  rw [this, hcut]
  exact I.obj x ob u (key h1).2 h2

theorem JM.final {B : Base} {L : Nat → Bool} {μ : Hd} {S : BSet} {w : World} (J : JM B T h' ow' h0.length L μ S w) (hL : ∀ j, j < T.length → L j = true) : Inv B μ S w h' := by
  have hl := F.lens
  simp only [List.length_nil, Nat.add_zero] at hl
  have hle := F.hpre.length_le
  have key : ∀ {x : Nat} {ob : Ob}, h'[x]? = some ob → HL h' ow' h0.length L x ob := by
    intro x ob hx
    have hlt : x < h'.length := by obtain ⟨h, _⟩ := List.getElem?_eq_some_iff.1 hx; exact h
    by_cases hxm : x < h0.length
    · exact ⟨hx, .inl hxm⟩
    · obtain ⟨k, s, h1, h2, h3⟩ := F.cover x (by omega) hlt
      obtain ⟨_, h4⟩ := range_own F h1 h2 h3
      exact ⟨hx, .inr ⟨k, h4, hL k (by obtain ⟨h, _⟩ := List.getElem?_eq_some_iff.1 h1; exact h)⟩⟩
  refine ⟨J.base, fun x ob h1 h2 => J.dom x ob (key h1) h2, fun x hx => J.non x (by omega) fun j hj => ?_, fun x ob u h1 h2 => (J.obj x ob u (key h1) h2).keep (μ.cut_le _) (Keeps.refl S w) fun _ _ => rfl, fun x x' ob ob' u u' b h1 h2 => J.sep x x' ob ob' u u' b (key h1) (key h2), fun x ob u b h1 => J.out x ob u b (key h1), J.lt, J.sub⟩
  obtain ⟨h, _⟩ := List.getElem?_eq_some_iff.1 hj
  omega
end

end X
end Go.Proofs.YtjnfmjeiceiciaaGreat

/-
Regions whose order is open: the theorem.
-/
namespace Go.Proofs.YtjnfmjeiceiciaaGreat
namespace X
open Go Go.RowKit
set_option linter.unusedVariables false
set_option linter.unusedSimpArgs false
set_option linter.unnecessarySimpa false
set_option linter.unusedSectionVars false

/-- One more has been carried out. -/
def more1 (L : Nat → Bool) (k : Nat) : Nat → Bool := fun j => if j = k then true else L j

section
variable {tb : Tabs} {fid rid : Nat} {all : List Oper} {ws : List Nat} {os : List Oper} {T : List St} {e0 : Env} {h0 : Hp} {e' : Env} {h' : Hp} {ow' : List Nat} (F : TF tb fid rid all ws h0.length 0 os T e0 h0 [] e' h' ow')
 include F

theorem JM.skip {B : Base} {L : Nat → Bool} {μ : Hd} {S : BSet} {w : World} (J : JM B T h' ow' h0.length L μ S w) {k : Nat} {s : St} (hk : T[k]? = some s) (hn : s.new = []) : JM B T h' ow' h0.length (more1 L k) μ S w := by
  have key : ∀ {x : Nat} {ob : Ob}, HL h' ow' h0.length (more1 L k) x ob → HL h' ow' h0.length L x ob := by
    rintro x ob ⟨h1, h2 | ⟨j, h2, h3⟩⟩
    · exact ⟨h1, .inl h2⟩
    · by_cases hxm : x < h0.length
      · exact ⟨h1, .inl hxm⟩
      · by_cases hj : j = k
        · subst hj
          obtain ⟨s', h4, h5, h6⟩ := own_range F (by omega) h2
          rw [hk] at h4; cases h4
          rw [hn] at h6; simp at h6; omega
        · exact ⟨h1, .inr ⟨j, h2, by simpa [more1, hj] using h3⟩⟩
  exact ⟨J.base, fun x ob h1 => J.dom x ob (key h1), fun x hx hj => J.non x hx fun j h1 => by
    have := hj j h1
    unfold more1 at this
    split at this
    · cases this
    · exact this, fun x ob u h1 => J.obj x ob u (key h1), fun x x' ob ob' u u' b h1 h2 => J.sep x x' ob ob' u u' b (key h1) (key h2), fun x ob u b h1 => J.out x ob u b (key h1), J.lt, J.sub⟩

/-- The headers, with those of what was made. -/
def Hd.ins (μ μ' : Hd) (n d : Nat) : Hd := fun i => if n ≤ i ∧ i < n + d then μ' i else μ i

theorem JM.step {B : Base} {L : Nat → Bool} {μ : Hd} {S : BSet} {w : World} (J : JM B T h' ow' h0.length L μ S w) {k : Nat} {s : St} (hk : T[k]? = some s) (hLk : L k = false) {hm : Hp} (hml : hm.length = s.h.length) {v : V} {u : Value} {w' : World} {μ' : Hd} {S' : BSet}
    (st : NewSt B (μ.cut s.h.length) S w hm v s.new u w' μ' S') :
    JM B T h' ow' h0.length (more1 L k) (μ.ins μ' s.h.length s.new.length) S' w' ∧ μ.le (μ.ins μ' s.h.length s.new.length) ∧ μ'.le ((μ.ins μ' s.h.length s.new.length).cut (lev T k)) ∧ Keeps S S' w w' := by
  obtain ⟨o, ho⟩ := F.at hk
  obtain ⟨a1, a2, a3, a4, _⟩ := F.each k o s ho hk
  have hkeep : Keeps S S' w w' := ⟨st.grow, fun b hb => st.more.same b (J.lt b hb)⟩
  have hlev : lev T k = s.h.length + s.new.length := by simp [lev, hk]
  have inr : ∀ {x : Nat}, s.h.length ≤ x → x < s.h.length + s.new.length → h0.length ≤ x ∧ ow'[x - h0.length]? = some k := fun h1 h2 => range_own F hk h1 h2
  have hnone : ∀ x, s.h.length ≤ x → x < s.h.length + s.new.length → μ x = none := fun x h1 h2 => J.non x (inr h1 h2).1 fun j hj => by rw [(inr h1 h2).2] at hj; cases hj; exact hLk
  have le1 : μ.le (μ.ins μ' s.h.length s.new.length) := fun x v h => by
    unfold Hd.ins
    split
    · rename_i hx; rw [hnone x hx.1 hx.2] at h; cases h
    · exact h
  have le2 : μ'.le ((μ.ins μ' s.h.length s.new.length).cut (lev T k)) := fun x v h => by
    rw [hlev]
    unfold Hd.cut Hd.ins
    have hx : x < s.h.length + s.new.length := by
      rcases Nat.lt_or_ge x (s.h.length + s.new.length) with h1 | h1
      · exact h1
      · rw [st.inv.fresh x (by simp [hml]; exact h1)] at h; cases h
    rw [if_pos hx]
    split
    · exact h
    · rename_i hn
      have hx2 : x < s.h.length := by omega
      rw [st.old x (by rw [hml]; exact hx2)] at h
      exact μ.cut_le _ _ _ h
  -- which object it is
  have key : ∀ {x : Nat} {ob : Ob} {u : Value}, HL h' ow' h0.length (more1 L k) x ob → μ.ins μ' s.h.length s.new.length x = some u →
      (HL h' ow' h0.length L x ob ∧ μ x = some u) ∨ (s.h.length ≤ x ∧ x < s.h.length + s.new.length ∧ (hm ++ s.new)[x]? = some ob ∧ μ' x = some u) := by
    rintro x ob u ⟨h1, h2⟩ h3
    by_cases hx : s.h.length ≤ x ∧ x < s.h.length + s.new.length
    · refine .inr ⟨hx.1, hx.2, ?_, by simpa [Hd.ins, hx] using h3⟩
      rw [List.getElem?_append_right (by omega), hml]
      have h5 : s.new[x - s.h.length]? = some (s.new[x - s.h.length]'(by omega)) := List.getElem?_eq_getElem _
      have h6 : (s.h ++ s.new)[x]? = s.new[x - s.h.length]? := List.getElem?_append_right (by omega)
      have h7 := pre_eq a2 (h6.trans h5)
      rw [h1] at h7
      rw [h5]; exact h7.symm
    · simp only [Hd.ins, hx, if_false] at h3
      refine .inl ⟨⟨h1, ?_⟩, h3⟩
      rcases h2 with h2 | ⟨j, h2, h4⟩
      · exact .inl h2
      · by_cases hxm : x < h0.length
        · exact .inl hxm
        · by_cases hj : j = k
          · subst hj
            obtain ⟨s', h5, h6, h7⟩ := own_range F (by omega) h2
            rw [hk] at h5; cases h5
            exact absurd ⟨h6, h7⟩ hx
          · exact .inr ⟨j, h2, by simpa [more1, hj] using h4⟩
  have lvx : ∀ {x : Nat}, s.h.length ≤ x → x < s.h.length + s.new.length → levx T ow' h0.length x = lev T k := by
    intro x h1 h2
    obtain ⟨h3, h4⟩ := inr h1 h2
    simp [levx, show ¬ x < h0.length by omega, h4]
  have hold : ∀ {x : Nat} {ob : Ob} {u : Value} {b : Nat}, HL h' ow' h0.length L x ob → μ x = some u → ownB ob u = some b → b < w.heap.size := fun h1 h2 h3 => (J.obj _ _ _ h1 h2).lt h3
  refine ⟨⟨st.inv.base, fun x ob h1 h2 => ?_, fun x hx hj => ?_, fun x ob u h1 h2 => ?_, fun x x' ob ob' u u' b h1 h2 h3 h4 h5 h6 => ?_, fun x ob u b h1 h2 h3 => ?_, st.inv.lt, st.inv.sub⟩, le1, le2, hkeep⟩
  · by_cases hx : s.h.length ≤ x ∧ x < s.h.length + s.new.length
    · obtain ⟨h3, h4⟩ := h1
      have h5 : s.new[x - s.h.length]? = some (s.new[x - s.h.length]'(by omega)) := List.getElem?_eq_getElem _
      have h6 : (s.h ++ s.new)[x]? = s.new[x - s.h.length]? := List.getElem?_append_right (by omega)
      have h7 := pre_eq a2 (h6.trans h5)
      rw [h3] at h7
      have h8 : (hm ++ s.new)[x]? = some ob := by rw [List.getElem?_append_right (by omega), hml, h5]; exact h7.symm
      obtain ⟨u, hu⟩ := st.inv.dom x ob h8 h2
      exact ⟨u, by simp [Hd.ins, hx, hu]⟩
    · have : HL h' ow' h0.length L x ob := by
        obtain ⟨h3, h4⟩ := h1
        refine ⟨h3, ?_⟩
        rcases h4 with h4 | ⟨j, h4, h5⟩
        · exact .inl h4
        · by_cases hxm : x < h0.length
          · exact .inl hxm
          · by_cases hj : j = k
            · subst hj
              obtain ⟨s', h6, h7, h8⟩ := own_range F (by omega) h4
              rw [hk] at h6; cases h6
              exact absurd ⟨h7, h8⟩ hx
            · exact .inr ⟨j, h4, by simpa [more1, hj] using h5⟩
      obtain ⟨u, hu⟩ := J.dom x ob this h2
      exact ⟨u, le1 _ _ hu⟩
  · have hx2 : ¬ (s.h.length ≤ x ∧ x < s.h.length + s.new.length) := fun h => by
      have := hj k (inr h.1 h.2).2
      simp [more1] at this
    simp only [Hd.ins, hx2, if_false]
    exact J.non x hx fun j h1 => by
      have := hj j h1
      unfold more1 at this
      split at this
      · cases this
      · exact this
  · rcases key h1 h2 with ⟨p1, p2⟩ | ⟨p1, p2, p3, p4⟩
    · exact (J.obj x ob u p1 p2).keep (Hd.cut_mono le1 (Nat.le_refl _)) hkeep fun b hb => st.more.same b (hold p1 p2 hb)
    · rw [lvx p1 p2]
      exact (st.inv.obj x ob u p3 p4).keep le2 (Keeps.refl _ _) fun _ _ => rfl
  · rcases key h1 h3 with ⟨p1, p2⟩ | ⟨p1, p2, p3, p4⟩ <;> rcases key h2 h4 with ⟨q1, q2⟩ | ⟨q1, q2, q3, q4⟩
    · exact J.sep x x' ob ob' u u' b p1 q1 p2 q2 h5 h6
    · have := hold p1 p2 h5
      have := st.fresh x' ob' u' b (by rw [hml]; exact q1) q3 q4 h6
      omega
    · have := hold q1 q2 h6
      have := st.fresh x ob u b (by rw [hml]; exact p1) p3 p4 h5
      omega
    · exact st.inv.sep x x' ob ob' u u' b p3 q3 p4 q4 h5 h6
  · rcases key h1 h2 with ⟨p1, p2⟩ | ⟨p1, p2, p3, p4⟩
    · obtain ⟨q1, q2⟩ := J.out x ob u b p1 p2 h3
      refine ⟨fun hs => ?_, q2⟩
      rcases st.sfresh b hs with h | h
      · exact q1 h
      · have := hold p1 p2 h3; omega
    · exact st.inv.out x ob u b p3 p4 h3

/-- The frame's slots when some have been carried out. -/
structure SL (os : List Oper) (T : List St) (e0 : Env) (m : Nat) (L : Nat → Bool) (μ : Hd) (S : BSet) (w : World) (tmps : Array Value) : Prop where
  size : tmps.size = e0.length
  slot : ∀ t u, tmps[t]? = some u → ((∀ j o, os[j]? = some o → L j = true → o.dst ≠ some t) → VRep (μ.cut m) S w (e0.getD t .undef) u) ∧
    ∀ (j : Nat) (o : Oper) (s : St), os[j]? = some o → T[j]? = some s → L j = true → o.dst = some t → VRep (μ.cut (lev T j)) S w s.val u
end

theorem SL.start {os : List Oper} {T : List St} {e0 : Env} {h0 : Hp} {B : Base} {μ : Hd} {S : BSet} {w : World} {tmps : Array Value} (I : Inv B μ S w h0) (he : VRepL μ S w e0 tmps.toList) : SL os T e0 h0.length (fun _ => false) μ S w tmps := by
  have hcut : μ.cut h0.length = μ := by
    funext k
    unfold Hd.cut
    split
    · rfl
    · exact (I.fresh k (by omega)).symm
  refine ⟨by simpa using VRepL.len _ _ he, fun t u hu => ⟨fun _ => ?_, fun j o s _ _ h _ => by cases h⟩⟩
  rw [hcut, List.getD_eq_getElem?_getD]
  cases h : e0[t]? with
  | none => simp [VRep]
  | some v =>
    obtain ⟨u', h1, h2⟩ := VRepL.get _ _ he t v h
    simp only [Array.getElem?_toList] at h1
    rw [hu] at h1; cases h1
    exact h2

/-- An operation's yield is laid into its slot. -/
theorem SL.put {os : List Oper} {T : List St} {e0 : Env} {m : Nat} {L : Nat → Bool} {μ μ' : Hd} {S S' : BSet} {w w' : World} {a : Act} (X : SL os T e0 m L μ S w a.tmps) {k : Nat} {o : Oper} {s : St} (ho : os[k]? = some o) (hs : T[k]? = some s)
    (hl : μ.le μ') (hk : Keeps S S' w w') {u : Value} (hv : VRep (μ'.cut (lev T k)) S' w' s.val u) (hnd : ∀ j o', os[j]? = some o' → j ≠ k → L j = true → ∀ d, o'.dst = some d → o.dst ≠ some d) :
    SL os T e0 m (more1 L k) μ' S' w' (a.put o.dst u).tmps := by
  have hmono : ∀ n, (μ.cut n).le (μ'.cut n) := fun n => Hd.cut_mono hl (Nat.le_refl _)
  refine ⟨by cases o.dst <;> simp [Act.put, X.size], fun t x hx => ?_⟩
  by_cases hd : o.dst = some t
  · have hxu : x = u := by
      rw [hd] at hx
      simp only [Act.put] at hx
      rw [Array.getElem?_setIfInBounds_self] at hx
      split at hx
      · exact (by simpa using hx.symm)
      · cases hx
    subst hxu
    refine ⟨fun h => absurd hd (h k o ho (by simp [more1])), fun j o' s' h1 h2 h3 h4 => ?_⟩
    by_cases hj : j = k
    · subst hj
      rw [hs] at h2; cases h2
      exact hv
    · exact absurd hd (hnd j o' h1 hj (by simpa [more1, hj] using h3) t h4)
  · have hx' : a.tmps[t]? = some x := by
      cases hdd : o.dst with
      | none => simpa [Act.put, hdd] using hx
      | some d =>
        rw [hdd] at hx hd
        have hne : d ≠ t := fun h => hd (by rw [h])
        simpa [Act.put, Array.getElem?_setIfInBounds_ne hne] using hx
    obtain ⟨p1, p2⟩ := X.slot t x hx'
    refine ⟨fun h => VRep.keep (hmono _) hk _ _ (p1 fun j o' h1 h2 => h j o' h1 (by unfold more1; split <;> simp [h2])), fun j o' s' h1 h2 h3 h4 => ?_⟩
    by_cases hj : j = k
    · subst hj
      rw [ho] at h1; cases h1
      exact absurd h4 hd
    · exact VRep.keep (hmono _) hk _ _ (p2 j o' s' h1 h2 (by simpa [more1, hj] using h3) h4)

end X
end Go.Proofs.YtjnfmjeiceiciaaGreat

/-
Regions whose order is open: the theorem.
-/
namespace Go.Proofs.YtjnfmjeiceiciaaGreat
namespace X
open Go Go.RowKit
set_option linter.unusedVariables false
set_option linter.unusedSimpArgs false
set_option linter.unnecessarySimpa false
set_option linter.unusedSectionVars false

/-- Only these slots are known. -/
def restr (l : List Nat) (e : Env) : Env := (List.range e.length).map fun t => if l.contains t then e.getD t .undef else .undef

theorem restr_length (l : List Nat) (e : Env) : (restr l e).length = e.length := by simp [restr]
theorem restr_get (l : List Nat) (e : Env) {t : Nat} (h : t ∈ l) : (restr l e).getD t .undef = e.getD t .undef := by
  by_cases ht : t < e.length
  · simp [restr, List.getD_eq_getElem?_getD, ht, h]
  · simp [restr, List.getD_eq_getElem?_getD, ht]

theorem VRepL.of {μ : Hd} {S : BSet} {w : World} : ∀ (vs : List V) (us : List Value), us.length = vs.length → (∀ (i : Nat) (v : V) (u : Value), vs[i]? = some v → us[i]? = some u → VRep μ S w v u) → VRepL μ S w vs us
  | [], us, hl, _ => by simp only [VRepL]; exact List.eq_nil_of_length_eq_zero hl
  | v :: vs, [], hl, _ => by simp at hl
  | v :: vs, u :: us, hl, h => by
    simp only [VRepL]
    exact ⟨u, us, rfl, h 0 v u rfl rfl, VRepL.of vs us (by simpa using hl) fun i v u h1 h2 => h (i + 1) v u (by simpa using h1) (by simpa using h2)⟩

section
variable {tb : Tabs} {e e2 : Env} {h : Hp}
theorem pairs_congr {ps : Array (Nat × Operand)} (hp : ∀ x ∈ (ps.toList.map (·.2)).toArray, getV e x = getV e2 x) :
    (ps.toList.map fun p => (p.1, getV e p.2)) = (ps.toList.map fun p => (p.1, getV e2 p.2)) ∧ (ps.toList.map fun p => getV e p.2) = ps.toList.map fun p => getV e2 p.2 := by
  have hm : ∀ p ∈ ps.toList, getV e p.2 = getV e2 p.2 := fun p hm => hp p.2 (by simp only [List.mem_toArray, List.mem_map]; exact ⟨p, hm, rfl⟩)
  exact ⟨List.map_congr_left fun p h => by rw [hm p h], List.map_congr_left fun p h => hm p h⟩

theorem opN_congr (o : Op) (hx : ∀ x ∈ o.operands, getV e x = getV e2 x) : opN tb o e h = opN tb o e2 h := by
  cases o with
  | build t ps => simp only [Op.operands] at hx; simp only [opN, (pairs_congr hx).1]
  | buildSlice t n ps => simp only [Op.operands] at hx; simp only [opN, (pairs_congr hx).1, (pairs_congr hx).2]
  | makeFunc fn first caps =>
    simp only [Op.operands] at hx
    have : caps.toList.map (getV e) = caps.toList.map (getV e2) := List.map_congr_left fun x hm => hx x (Array.mem_append.2 (.inr (by simpa using hm)))
    cases fn <;> simp only [opN, opQ, this]
  | slice t x lo hi mx =>
    simp only [Op.operands] at hx
    have h1 := hx x (by simp)
    have h2 : lo.map (getV e) = lo.map (getV e2) := by
      cases lo with
      | none => rfl
      | some y => simp [hx y (by simp)]
    have h3 : hi.map (getV e) = hi.map (getV e2) := by
      cases hi with
      | none => rfl
      | some y => simp [hx y (by simp)]
    cases mx <;> simp only [opN, opQ, h1, h2, h3]
  | call c =>
    obtain ⟨callee, args, argTypes⟩ := c
    simp only [Op.operands, Call.operands] at hx
    have hin : ∀ x ∈ args, getV e x = getV e2 x := fun x hm => hx x (Array.mem_append.2 (.inr hm))
    have ha : args.toList.map (getV e) = args.toList.map (getV e2) := List.map_congr_left fun x hm => hin x (by simpa using hm)
    have h0 : getV e (args.getD 0 (.const undef)) = getV e2 (args.getD 0 (.const undef)) := by
      rw [Array.getD_eq_getD_getElem?]
      cases h : args[0]? with
      | none => rfl
      | some x => exact hin x (Array.mem_of_getElem? h)
    cases callee with
    | value f => rfl
    | invoke r m => rfl
    | builtin b => cases b <;> simp only [opN, opQ, ha, h0]
  | alloc t => rfl
  | ready g => rfl
  | waits g => rfl
  | pick c a b => simp only [Op.operands] at hx; simp only [opN, opQ, hx c (by simp), hx a (by simp), hx b (by simp)]
  | binOp op T x y T' => simp only [Op.operands] at hx; simp only [opN, opQ, hx x (by simp), hx y (by simp)]
  | makeSlice t x y => simp only [Op.operands] at hx; simp only [opN, opQ, hx x (by simp), hx y (by simp)]
  | indexAddr t x y => simp only [Op.operands] at hx; simp only [opN, opQ, hx x (by simp), hx y (by simp)]
  | index t x y => simp only [Op.operands] at hx; simp only [opN, opQ, hx x (by simp), hx y (by simp)]
  | unOp op t x => simp only [Op.operands] at hx; cases op <;> simp only [opN, opQ, hx x (by simp)]
  | move x => simp only [Op.operands] at hx; simp only [opN, opQ, hx x (by simp)]
  | assign x => simp only [Op.operands] at hx; simp only [opN, opQ, hx x (by simp)]
  | box t x => simp only [Op.operands] at hx; simp only [opN, opQ, hx x (by simp)]
  | load t x => simp only [Op.operands] at hx; simp only [opN, opQ, hx x (by simp)]
  | nilCheck x => simp only [Op.operands] at hx; simp only [opN, opQ, hx x (by simp)]
  | convert s t x => simp only [Op.operands] at hx; simp only [opN, opQ, hx x (by simp)]
  | fieldAddr t x f => simp only [Op.operands] at hx; simp only [opN, opQ, hx x (by simp)]
  | field t x f => simp only [Op.operands] at hx; simp only [opN, opQ, hx x (by simp)]
  | extract x i => simp only [Op.operands] at hx; simp only [opN, opQ, hx x (by simp)]
  | makeInterface t x => rfl
  | _ => rfl

theorem writesB_congr (o : Op) (hx : ∀ x ∈ o.operands, getV e x = getV e2 x) : writesB tb o e = writesB tb o e2 := by
  cases o with
  | buildSlice t n ps => simp only [Op.operands] at hx; simp only [writesB, (pairs_congr hx).2]
  | call c => obtain ⟨callee, args, argTypes⟩ := c; cases callee with
    | builtin b => cases b <;> rfl
    | _ => rfl
  | _ => rfl

theorem opD_congr {fid rid i : Nat} (o : Op) (hx : ∀ x ∈ o.operands, getV e x = getV e2 x) : opD tb fid rid i o e h = opD tb fid rid i o e2 h := by
  have gen : opD tb fid rid i o e h = (if writesB tb o e then .no else opN tb o e h) → opD tb fid rid i o e2 h = (if writesB tb o e2 then .no else opN tb o e2 h) → opD tb fid rid i o e h = opD tb fid rid i o e2 h := by
    intro h1 h2
    rw [h1, h2, writesB_congr o hx, opN_congr o hx]
  cases o with
  | call c =>
    obtain ⟨callee, args, argTypes⟩ := c
    cases callee with
    | value f =>
      simp only [Op.operands, Call.operands] at hx
      have hin : ∀ x ∈ args, getV e x = getV e2 x := fun x hm => hx x (Array.mem_append.2 (.inr hm))
      have ha : args.toList.map (getV e) = args.toList.map (getV e2) := List.map_congr_left fun x hm => hin x (by simpa using hm)
      have hf := hx f (by simp)
      simp only [opD, ha, hf]
    | invoke r m => exact gen rfl rfl
    | builtin b => exact gen rfl rfl
  | _ => exact gen rfl rfl
end

theorem apartB_spec {all : List Oper} {x y : Oper} (h : apartB all x y = true) : (∀ d, x.dst = some d → d ∉ looks all y) ∧ (∀ d, y.dst = some d → d ∉ looks all x) := by
  unfold apartB at h
  split at h
  · rename_i d d' h1 h2
    simp only [Bool.and_eq_true, bne_iff_ne, Bool.not_eq_true', List.contains_eq_mem, decide_eq_false_iff_not] at h
    exact ⟨(fun a ha => by rw [h1] at ha; cases ha; exact h.1.2), (fun a ha => by rw [h2] at ha; cases ha; exact h.2)⟩
  · rename_i d h1 h2
    simp only [Bool.not_eq_true', List.contains_eq_mem, decide_eq_false_iff_not] at h
    exact ⟨(fun a ha => by rw [h1] at ha; cases ha; exact h), (fun a ha => by rw [h2] at ha; cases ha)⟩
  · rename_i d h1 h2
    simp only [Bool.not_eq_true', List.contains_eq_mem, decide_eq_false_iff_not] at h
    exact ⟨(fun a ha => by rw [h1] at ha; cases ha), (fun a ha => by rw [h2] at ha; cases ha; exact h)⟩
  · rename_i h1 h2
    exact ⟨(fun a ha => by rw [h1] at ha; cases ha), (fun a ha => by rw [h2] at ha; cases ha)⟩

theorem ndst_spec {x y : Oper} (h : ndst x y = true) : ∀ d, x.dst = some d → y.dst ≠ some d := by
  intro d hx hy
  simp [ndst, hx, hy] at h

theorem looks_operand {all : List Oper} {o : Oper} {t : Tmp} (h : Operand.tmp t ∈ o.op.operands) : t ∈ looks all o := by
  unfold looks
  exact List.mem_append_left _ (List.mem_filterMap.2 ⟨.tmp t, by simpa using h, rfl⟩)
theorem looks_guard {all : List Oper} {o : Oper} {j : Nat} {want : Bool} {t : Tmp} (hg : o.guard = some (j, want)) (ht : gslot all j = some t) : t ∈ looks all o := by
  unfold looks
  refine List.mem_append_right _ ?_
  simp [hg, ht]

section
variable {P : Program} {tb : Tabs} (ht : TabOK P tb.tt) (hs : SigsOK P tb) {B : Base} {fid rid : Nat} {ops : Array Oper} {T : List St} {e0 : Env} {h0 : Hp} {e' : Env} {h' : Hp} {ow' : List Nat}
  (F : TF tb fid rid ops.toList (waitsL [] ops.toList) h0.length 0 ops.toList T e0 h0 [] e' h' ow') (hord : orderB ops.toList [] [] ops.toList = true)
  {Q : Exit → Act → World → Prop} {S0 : BSet} {w0 : World} {df : List Deferred} (hQ : ∀ a w μ S, a.defers = df → Keeps S0 S w0 w → Inv B μ S w h' → VRepL μ S w e' a.tmps.toList → Q .normal a w)

/-- What holds on the way. -/
structure Mid (B : Base) (ops : Array Oper) (T : List St) (e0 : Env) (h0 : Hp) (h' : Hp) (ow' : List Nat) (S0 : BSet) (w0 : World) (df : List Deferred) (listed : Array Bool) (a : Act) (w : World) : Prop where
  size : listed.size = ops.size
  closed : ∀ j, listed.getD j false = true → ∀ i, ((waitsL [] ops.toList).getD j 0).testBit i = true → listed.getD i false = true
  defers : a.defers = df
  mem : ∃ μ S, JM B T h' ow' h0.length (fun j => listed.getD j false) μ S w ∧ SL ops.toList T e0 h0.length (fun j => listed.getD j false) μ S w a.tmps ∧ Keeps S0 S w0 w

 include F hord
theorem order_at {k : Nat} {o : Oper} (ho : ops[k]? = some o) : (∀ x ∈ o.after, Region.binds .any x = true → x.on < k) ∧ (waitsL [] ops.toList).getD k 0 = waits ((waitsL [] ops.toList).take k) o ∧
    ∀ (i : Nat) (x : Oper), ops[i]? = some x → i < k → (((waitsL [] ops.toList).getD k 0).testBit i = true ∨ apartB ops.toList x o = true) ∧ ndst x o = true := by
  have := order_spec ops.toList [] [] hord rfl k o (by simpa using ho)
  simp only [List.length_nil, Nat.zero_add, List.nil_append, Array.getElem?_toList] at this
  exact this

theorem ndst_at {j k : Nat} {x o : Oper} (hj : ops[j]? = some x) (hk : ops[k]? = some o) (hne : j ≠ k) : ∀ d, x.dst = some d → o.dst ≠ some d := by
  rcases Nat.lt_or_ge j k with h | h
  · exact ndst_spec (((order_at F hord hk).2.2 j x hj h).2)
  · intro d h1 h2
    exact ndst_spec (((order_at F hord hj).2.2 k o hk (by omega)).2) d h2 h1

theorem waits_lt {k i : Nat} {o : Oper} (ho : ops[k]? = some o) (h : ((waitsL [] ops.toList).getD k 0).testBit i = true) : i < k := by
  induction k using Nat.strongRecOn generalizing o with
  | _ k ih =>
    obtain ⟨h1, h2, _⟩ := order_at F hord ho
    rw [h2] at h
    obtain ⟨x, hx, hb, hor⟩ := waits_bit h
    have hlt := h1 x hx hb
    rcases hor with rfl | hor
    · exact hlt
    · have hlt2 : x.on < ops.size := by
        have : k < ops.size := by obtain ⟨h, _⟩ := Array.getElem?_eq_some_iff.1 ho; exact h
        omega
      have e1 : ((waitsL [] ops.toList).take k).getD x.on 0 = (waitsL [] ops.toList).getD x.on 0 := by
        simp [List.getD_eq_getElem?_getD, List.getElem?_take, hlt]
      rw [e1] at hor
      have := ih x.on hlt (Array.getElem?_eq_getElem hlt2) hor
      omega

/-- What an operation looks at when its turn has come. -/
theorem slot_at {k : Nat} {o : Oper} {s : St} (ho : ops[k]? = some o) (hk : T[k]? = some s) {L : Nat → Bool} (hLk : L k = false) (hwait : ∀ j, ((waitsL [] ops.toList).getD k 0).testBit j = true → L j = true)
    (hclosed : ∀ j, L j = true → ∀ i, ((waitsL [] ops.toList).getD j 0).testBit i = true → L i = true) {μ : Hd} {S : BSet} {w : World} {tmps : Array Value} (X : SL ops.toList T e0 h0.length L μ S w tmps) {t : Nat} {u : Value} (hu : tmps[t]? = some u)
    (hlook : t ∈ looks ops.toList o) : VRep (μ.cut s.h.length) S w (s.e1.getD t .undef) u := by
  obtain ⟨a1, a2, a3, a4, a5, a6, a7, a8⟩ := F.each k o s (by simpa using ho) hk
  simp only [List.length_nil, Nat.add_zero] at a4
  obtain ⟨p1, p2⟩ := X.slot t u hu
  have htl : t < e0.length := by rw [← X.size]; obtain ⟨h, _⟩ := Array.getElem?_eq_some_iff.1 hu; exact h
  rcases a8 t htl with ⟨j, hj, o', s', h1, h2, h3, h4⟩ | ⟨h1, h2⟩
  · have hjo : ops[j]? = some o' := by simpa using h1
    have hw : L j = true := by
      rcases ((order_at F hord ho).2.2 j o' hjo hj).1 with h | h
      · exact hwait j h
      · exact absurd hlook ((apartB_spec h).1 t h3)
    have := p2 j o' s' h1 h2 hw h3
    have hle : lev T j ≤ s.h.length := by simp only [lev, h2]; exact F.mono j k s' s h2 hk hj
    exact (h4 _ _ _ _).2 (VRep.keep (Hd.cut_mono (Hd.le.refl μ) hle) (Keeps.refl S w) _ _ this)
  · have hno : ∀ j o', ops.toList[j]? = some o' → L j = true → o'.dst ≠ some t := by
      intro j o' hjo hL hd
      rcases Nat.lt_trichotomy j k with h | h | h
      · exact h1 j h o' hjo hd
      · subst h; rw [hLk] at hL; cases hL
      · have hjo' : ops[j]? = some o' := by simpa using hjo
        rcases ((order_at F hord hjo').2.2 k o ho h).1 with h3 | h3
        · rw [hclosed j hL k h3] at hLk; cases hLk
        · exact (apartB_spec h3).2 t hd hlook
    exact (h2 _ _ _ _).2 (VRep.keep (Hd.cut_mono (Hd.le.refl μ) (by omega)) (Keeps.refl S w) _ _ (p1 hno))


theorem Mid.start {μ : Hd} {S : BSet} {a : Act} {w : World} (I : Inv B μ S w h0) (he : VRepL μ S w e0 a.tmps.toList) (hd : a.defers = df) (hk : Keeps S0 S w0 w) : Mid B ops T e0 h0 h' ow' S0 w0 df (Array.replicate ops.size false) a w := by
  have hL : (fun j => (Array.replicate ops.size false).getD j false) = fun _ => false := by
    funext j
    rw [Array.getD_eq_getD_getElem?]
    by_cases hj : j < ops.size <;> simp [hj]
  refine ⟨by simp, fun j hj => ?_, hd, μ, S, ?_, ?_, hk⟩
  · have := congrFun hL j
    rw [this] at hj; cases hj
  · rw [hL]; exact JM.start F I
  · rw [hL]; exact SL.start I he

theorem listed_more {listed : Array Bool} {k : Nat} (hk : k < listed.size) : (fun j => (listed.setIfInBounds k true).getD j false) = more1 (fun j => listed.getD j false) k := by
  funext j
  unfold more1
  split
  · rename_i h; subst h; simp [hk]
  · rename_i h
    have : k ≠ j := fun e => h e.symm
    simp [Array.getElem?_setIfInBounds_ne this]

/-- Everything has been carried out when nothing is ready. -/
theorem ready_none {listed : Array Bool} (hl : listed.size = ops.size) (h : Region.ready .any ops listed = []) : ∀ j, j < ops.size → listed.getD j false = true := by
  intro j
  induction j using Nat.strongRecOn with
  | _ j ih =>
    intro hj
    cases hq : listed.getD j false with
    | true => rfl
    | false =>
      exfalso
      have hmem : j ∈ Region.ready .any ops listed := by
        refine mem_ready.2 ⟨?_, _, Array.getElem?_eq_getElem hj, fun x hx hb => ?_⟩
        · have : j < listed.size := by omega
          simpa [this] using hq
        · have := (order_at F hord (Array.getElem?_eq_getElem hj)).1 x hx hb
          exact ih x.on this (by omega)
      rw [h] at hmem
      cases hmem

 include hQ
theorem Mid.done {listed : Array Bool} {a : Act} {w : World} (M : Mid B ops T e0 h0 h' ow' S0 w0 df listed a w) (h : ∀ j, j < ops.size → listed.getD j false = true) : Q .normal a w := by
  obtain ⟨μ, S, J, X, hk⟩ := M.mem
  have hlen := F.len
  have I := JM.final F J (fun j hj => h j (by rw [hlen] at hj; simpa using hj))
  refine hQ a w μ S M.defers hk I (VRepL.of _ _ (by simp [F.last.1, X.size]) fun t v u h1 h2 => ?_)
  simp only [Array.getElem?_toList] at h2
  obtain ⟨p1, p2⟩ := X.slot t u h2
  have ht : t < e0.length := by rw [← X.size]; obtain ⟨h, _⟩ := Array.getElem?_eq_some_iff.1 h2; exact h
  have hv : e'.getD t .undef = v := by rw [List.getD_eq_getElem?_getD, h1]; rfl
  rcases F.last.2 t ht with ⟨j, hj, o, s, q1, q2, q3, q4⟩ | ⟨q1, q2⟩
  · rw [hv] at q4
    exact (q4 _ _ _ _).2 (VRep.keep (μ.cut_le _) (Keeps.refl S w) _ _ (p2 j o s q1 q2 (h j (by simpa using hj)) q3))
  · rw [hv] at q2
    exact (q2 _ _ _ _).2 (VRep.keep (μ.cut_le _) (Keeps.refl S w) _ _ (p1 fun j o h3 _ => q1 j (by
      have : j < ops.toList.length := by obtain ⟨h, _⟩ := List.getElem?_eq_some_iff.1 h3; exact h
      exact this) o h3))

 include ht hs
 omit hQ in
/-- One operation's turn. -/
theorem Mid.turn {listed : Array Bool} {a : Act} {w : World} (M : Mid B ops T e0 h0 h' ow' S0 w0 df listed a w) {k : Nat} (hr : k ∈ Region.ready .any ops listed) {K : Act → World → Prop} (hK : ∀ a w, Mid B ops T e0 h0 h' ow' S0 w0 df (listed.setIfInBounds k true) a w → K a w) :
    wpOp P ops Q k K a w := by
  obtain ⟨hun, o, ho, hafter⟩ := mem_ready.1 hr
  obtain ⟨μ, S, J, X, hkp⟩ := M.mem
  have hkl : k < ops.size := by obtain ⟨h, _⟩ := Array.getElem?_eq_some_iff.1 ho; exact h
  have hksz : k < listed.size := by rw [M.size]; exact hkl
  have hLk : listed.getD k false = false := by simpa [hksz] using hun
  obtain ⟨s, hs'⟩ : ∃ s, T[k]? = some s := ⟨T[k]'(by rw [F.len]; simpa using hkl), List.getElem?_eq_getElem _⟩
  obtain ⟨a1, a2, a3, a4, a5, a6, a7, a8⟩ := F.each k o s (by simpa using ho) hs'
  simp only [Nat.zero_add] at a7
  simp only [List.length_nil, Nat.add_zero] at a4
  obtain ⟨o1, o2, o3⟩ := order_at F hord ho
  -- what comes before it has been carried out
  have hwait : ∀ j, ((waitsL [] ops.toList).getD k 0).testBit j = true → listed.getD j false = true := by
    intro j hj
    rw [o2] at hj
    obtain ⟨x, hx, hb, hor⟩ := waits_bit hj
    have hx1 := hafter x hx hb
    rcases hor with rfl | hor
    · exact hx1
    · have e1 : ((waitsL [] ops.toList).take k).getD x.on 0 = (waitsL [] ops.toList).getD x.on 0 := by
        simp [List.getD_eq_getElem?_getD, List.getElem?_take, o1 x hx hb]
      rw [e1] at hor
      exact M.closed x.on hx1 j hor
  have hclosed' : ∀ j, (listed.setIfInBounds k true).getD j false = true → ∀ i, ((waitsL [] ops.toList).getD j 0).testBit i = true → (listed.setIfInBounds k true).getD i false = true := by
    intro j hj i hi
    have e1 := fun j => congrFun (listed_more F hord hksz) j
    rw [e1] at hj ⊢
    unfold more1 at hj ⊢
    by_cases hik : i = k
    · rw [if_pos hik]
    · rw [if_neg hik]
      by_cases hjk : j = k
      · subst hjk; exact hwait i hi
      · rw [if_neg hjk] at hj
        exact M.closed j hj i hi
  have slot : ∀ t u, a.tmps[t]? = some u → t ∈ looks ops.toList o → VRep (μ.cut s.h.length) S w (s.e1.getD t .undef) u := fun t u hu hl => slot_at F hord ho hs' hLk hwait M.closed X hu hl
  have hnd : ∀ j o', ops.toList[j]? = some o' → j ≠ k → listed.getD j false = true → ∀ d, o'.dst = some d → o.dst ≠ some d := fun j o' hj hne _ => ndst_at F hord (by simpa using hj) ho hne
  have hlm := listed_more F hord hksz
  -- the guard
  have hwanted : Region.wanted o (yielded ops a.tmps) = s.r.isSome := by
    unfold GuardOK at a6
    split at a6
    · rename_i hg
      simp [Region.wanted, hg, a6]
    · rename_i j want hg
      obtain ⟨t, htj, hne, hall⟩ := a6
      rw [wanted_guard hg htj]
      have htl : t < a.tmps.size := by
        rw [X.size, ← a5]
        rcases Nat.lt_or_ge t s.e1.length with h | h
        · exact h
        · rw [List.getD_eq_getElem?_getD, List.getElem?_eq_none h] at hne; simp at hne
      have hu : a.tmps[t]? = some a.tmps[t] := Array.getElem?_eq_getElem htl
      have := hall _ _ _ _ (slot t _ hu (looks_guard hg htj))
      rw [hu]
      rw [← this]
      congr 1
      cases a.tmps[t] <;> rfl
  unfold wpOp
  simp only [ho]
  rw [hwanted]
  cases hsr : s.r with
  | none =>
    simp only [Option.isSome_none, Bool.false_eq_true, if_false]
    have hnew : s.new = [] := by simp [St.new, hsr]
    refine hK _ _ ⟨by simp [M.size], hclosed', by rw [put_defers]; exact M.defers, μ, S, ?_, ?_, hkp⟩
    · rw [hlm]; exact JM.skip F J hs' hnew
    · rw [hlm]
      exact X.put (by simpa using ho) hs' (Hd.le.refl μ) (Keeps.refl S w) (by simp [St.val, hsr, VRep]) hnd
  | some p =>
    simp only [Option.isSome_some, if_true]
    have hrun := a7 p.1 p.2 hsr
    -- the frame as far as it is looked at
    have he : VRepL (μ.cut s.h.length) S w (restr (looks ops.toList o) s.e1) a.tmps.toList := by
      refine VRepL.of _ _ (by rw [restr_length, a5, ← X.size]; simp) fun t v u h1 h2 => ?_
      simp only [Array.getElem?_toList] at h2
      have hv : (restr (looks ops.toList o) s.e1).getD t .undef = v := by rw [List.getD_eq_getElem?_getD, h1]; rfl
      by_cases hl : t ∈ looks ops.toList o
      · rw [restr_get _ _ hl] at hv
        rw [← hv]
        exact slot t u h2 hl
      · have : (restr (looks ops.toList o) s.e1).getD t .undef = .undef := by
          by_cases ht : t < s.e1.length
          · simp [restr, List.getD_eq_getElem?_getD, ht, hl]
          · simp [restr, List.getD_eq_getElem?_getD, ht]
        rw [this] at hv
        subst hv
        simp [VRep]
    have hcg : opD tb fid rid k o.op (restr (looks ops.toList o) s.e1) (maskH h0.length s.ow ((waitsL [] ops.toList).getD k 0) s.h) = opD tb fid rid k o.op s.e1 (maskH h0.length s.ow ((waitsL [] ops.toList).getD k 0) s.h) := by
      refine opD_congr o.op fun x hx => ?_
      cases x with
      | tmp t => exact restr_get _ _ (looks_operand hx)
      | const v => rfl
      | global g => rfl
      | func f => rfl
    have Im := JM.mask F J hs' (wk := (waitsL [] ops.toList).getD k 0) fun j hj => ⟨hwait j hj, waits_lt F hord ho hj⟩
    have hop := opD_sound (P := P) (fid := fid) (rid := rid) (i := k) ht hs Im he (o := o) (v := p.1) (hn := p.2) (by rw [hcg]; exact hrun)
    refine .inl (hop K Q fun u w' μ' S' st => ?_)
    have hval : s.val = p.1 := by simp [St.val, hsr]
    have hnew : s.new = p.2 := by simp [St.new, hsr]
    rw [← hnew, ← hval] at st
    have hml : (maskH h0.length s.ow ((waitsL [] ops.toList).getD k 0) s.h).length = s.h.length := mask_length (by omega) a4
    obtain ⟨J2, l1, l2, k2⟩ := JM.step F J hs' hLk hml st
    refine hK _ _ ⟨by simp [M.size], hclosed', by rw [put_defers]; exact M.defers, μ.ins μ' s.h.length s.new.length, S', ?_, ?_, hkp.trans k2⟩
    · rw [hlm]; exact J2
    · rw [hlm]
      exact X.put (by simpa using ho) hs' l1 k2 (VRep.keep l2 (Keeps.refl _ _) _ _ st.rep) hnd

theorem draw_any : ∀ (fuel : Nat) (listed : Array Bool) (a : Act) (w : World), Mid B ops T e0 h0 h' ow' S0 w0 df listed a w → (List.range ops.size).countP (fun j => !listed.getD j false) ≤ fuel → wpAny P .any ops Q fuel listed a w
  | 0, listed, a, w, M, hc => by
    have hall : ∀ j, j < ops.size → listed.getD j false = true := by
      intro j hj
      have h0 : (List.range ops.size).countP (fun j => !listed.getD j false) = 0 := by omega
      rw [List.countP_eq_zero] at h0
      have := h0 j (List.mem_range.2 hj)
      simpa using this
    refine ⟨?_, Mid.done F hord hQ M hall⟩
    cases hr : Region.ready .any ops listed with
    | nil => rfl
    | cons j r =>
      have hj : j ∈ Region.ready .any ops listed := by rw [hr]; simp
      obtain ⟨h1, o, h2, _⟩ := mem_ready.1 hj
      have hlt : j < ops.size := by obtain ⟨h, _⟩ := Array.getElem?_eq_some_iff.1 h2; exact h
      have h3 := hall j hlt
      have h4 : j < listed.size := by rw [M.size]; exact hlt
      simp [h4] at h1 h3
      rw [h1] at h3; cases h3
  | fuel + 1, listed, a, w, M, hc => by
    refine ⟨fun hr => Mid.done F hord hQ M (ready_none F hord M.size hr), fun k hk => ?_⟩
    refine Mid.turn ht hs F hord M hk fun a' w' M' => draw_any fuel _ a' w' M' ?_
    obtain ⟨hun, o, ho, _⟩ := mem_ready.1 hk
    have hkl : k < ops.size := by obtain ⟨h, _⟩ := Array.getElem?_eq_some_iff.1 ho; exact h
    have hksz : k < listed.size := by rw [M.size]; exact hkl
    have hLk : listed.getD k false = false := by simpa [hksz] using hun
    have e1 := listed_more F hord hksz
    have e2 : (fun j => !(listed.setIfInBounds k true).getD j false) = fun j => !more1 (fun j => listed.getD j false) k j := by
      funext j; rw [congrFun e1 j]
    rw [e2]
    -- one fewer
    have key : ∀ n, k < n → (List.range n).countP (fun j => !more1 (fun j => listed.getD j false) k j) + 1 = (List.range n).countP (fun j => !listed.getD j false) := by
      intro n
      induction n with
      | zero => intro h; omega
      | succ n ih =>
        intro h
        rw [List.range_succ, List.countP_append, List.countP_append]
        by_cases hn : k = n
        · subst hn
          have : (List.range k).countP (fun j => !more1 (fun j => listed.getD j false) k j) = (List.range k).countP (fun j => !listed.getD j false) := by
            refine List.countP_congr fun j hj => ?_
            have : j ≠ k := by have := List.mem_range.1 hj; omega
            simp [more1, this]
          rw [this]
          have hLk' : listed[k]?.getD false = false := by simpa using hLk
          simp [List.countP_cons, more1, hLk']
        · have := ih (by omega)
          have h2 : n ≠ k := fun e => hn e.symm
          have hm1 : more1 (fun j => listed.getD j false) k n = listed.getD n false := by simp [more1, h2]
          simp only [List.countP_cons, List.countP_nil, hm1]
          omega
    have := key ops.size hkl
    omega
end

/-- A region whose order is open. -/
theorem draw_sound {P : Program} {tb : Tabs} (ht : TabOK P tb.tt) (hs : SigsOK P tb) (hmix : P.follows .mixedOrders = true) {B : Base} {fid rid : Nat} {ops : Array Oper} {e : Env} {h : Hp} {e' : Env} {h' : Hp} {Q : Exit → Act → World → Prop} {μ : Hd} {S : BSet} {a : Act} {w : World}
    (hord : orderB ops.toList [] [] ops.toList = true) (hr : (drawV tb fid rid ops.toList (waitsL [] ops.toList) h.length 0 ops.toList e h []).run = some (e', h')) (I : Inv B μ S w h) (he : VRepL μ S w e a.tmps.toList)
    (hQ : ∀ a2 w2 μ2 S2, a2.defers = a.defers → Keeps S S2 w w2 → Inv B μ2 S2 w2 h' → VRepL μ2 S2 w2 e' a2.tmps.toList → Q .normal a2 w2) : (Code.region rid ops true).wp P Q a w := by
  obtain ⟨T, ow', F⟩ := draw_trace _ _ _ _ _ hr
  have hdrew := More.drew1 w (w.drawn + 1) (Nat.le_succ _)
  have hkd : Keeps S S w { w with drawn := w.drawn + 1 } := hdrew.keeps I.lt
  refine wp_region_any hmix (draw_any ht hs F hord (S0 := S) (w0 := w) (df := a.defers) hQ ops.size _ a _ (Mid.start F hord (I.more hdrew) (VRepL.keep (Hd.le.refl μ) hkd _ _ he) rfl hkd) ?_)
  exact Nat.le_trans List.countP_le_length (by simp)

end X
end Go.Proofs.YtjnfmjeiceiciaaGreat

/-
States read by forms: rows get new numbers.
-/
namespace Go.Proofs.YtjnfmjeiceiciaaGreat
namespace X
open Go Go.RowKit
set_option linter.unusedVariables false
set_option linter.unusedSimpArgs false
set_option linter.unnecessarySimpa false
set_option linter.unusedSectionVars false

/-! ### A nil slice becomes a row of one's own -/

theorem nil_push {B : Base} {μ : Hd} {S : BSet} {w : World} {h : Hp} (I : Inv B μ S w h) (E : TypeId) (e : Ty) :
    Inv B (μ.put h.length (.slice none 0 0)) S w (h ++ [.row E e []]) ∧ μ.le (μ.put h.length (.slice none 0 0)) ∧ VRep (μ.put h.length (.slice none 0 0)) S w (.row h.length) (.slice none 0 0) := by
  have ho : ORep (μ.put h.length (.slice none 0 0)) S w (.row E e []) (.slice none 0 0) := ⟨[], World.ownsRow_nil w 0 E e.size, rfl⟩
  refine ⟨I.push (More.refl w) ho (fun b hb => by simp [ownB] at hb), Hd.put_le (I.fresh _ (Nat.le_refl _)), ?_⟩
  simp only [VRep]
  exact ⟨Hd.put_same, _, _, _, rfl⟩

mutual
theorem fixV_sound {B : Base} {S : BSet} {w : World} (ots : List OT) : ∀ (t : VT) (v : V) (h : Hp) (μ : Hd) (u : Value), Inv B μ S w h → VRep μ S w v u →
    ∃ μ', Inv B μ' S w (fixV ots t v h).2 ∧ μ.le μ' ∧ VRep μ' S w (fixV ots t v h).1 u ∧ h <+: (fixV ots t v h).2
  | .row o, v, h, μ, u, I, hv => by
    cases v with
    | nils =>
      simp only [fixV]
      split
      · rename_i E e _
        obtain ⟨h1, h2, h3⟩ := nil_push I E e
        simp only [VRep] at hv
        subst hv
        exact ⟨_, h1, h2, h3, List.prefix_append _ _⟩
      · exact ⟨μ, I, Hd.le.refl μ, hv, List.prefix_refl _⟩
    | _ => exact ⟨μ, I, Hd.le.refl μ, hv, List.prefix_refl _⟩
  | .ag ts, v, h, μ, u, I, hv => by
    cases v with
    | agg us =>
      simp only [fixV]
      simp only [VRep] at hv
      obtain ⟨cs, rfl, h2, h3⟩ := hv
      obtain ⟨μ', I', l, h4, h5⟩ := fixL_sound ots ts us h μ cs.toList I h2
      refine ⟨μ', I', l, ?_, h5⟩
      simp only [VRep]
      exact ⟨cs, rfl, h4, h3⟩
    | _ => exact ⟨μ, I, Hd.le.refl μ, hv, List.prefix_refl _⟩
  | .u, v, h, μ, u, I, hv => ⟨μ, by simpa [fixV] using I, Hd.le.refl μ, by simpa [fixV] using hv, by simp [fixV]⟩
  | .kb _, v, h, μ, u, I, hv => ⟨μ, by simpa [fixV] using I, Hd.le.refl μ, by simpa [fixV] using hv, by simp [fixV]⟩
  | .nils, v, h, μ, u, I, hv => ⟨μ, by simpa [fixV] using I, Hd.le.refl μ, by simpa [fixV] using hv, by simp [fixV]⟩
  | .d _ _, v, h, μ, u, I, hv => ⟨μ, by simpa [fixV] using I, Hd.le.refl μ, by simpa [fixV] using hv, by simp [fixV]⟩
  | .ip _ _, v, h, μ, u, I, hv => ⟨μ, by simpa [fixV] using I, Hd.le.refl μ, by simpa [fixV] using hv, by simp [fixV]⟩
  | .cp _ _, v, h, μ, u, I, hv => ⟨μ, by simpa [fixV] using I, Hd.le.refl μ, by simpa [fixV] using hv, by simp [fixV]⟩
  | .ep _ _ _ _, v, h, μ, u, I, hv => ⟨μ, by simpa [fixV] using I, Hd.le.refl μ, by simpa [fixV] using hv, by simp [fixV]⟩
  | .ap _, v, h, μ, u, I, hv => ⟨μ, by simpa [fixV] using I, Hd.le.refl μ, by simpa [fixV] using hv, by simp [fixV]⟩
  | .sub _ _ _ _, v, h, μ, u, I, hv => ⟨μ, by simpa [fixV] using I, Hd.le.refl μ, by simpa [fixV] using hv, by simp [fixV]⟩
  | .fn _ _, v, h, μ, u, I, hv => ⟨μ, by simpa [fixV] using I, Hd.le.refl μ, by simpa [fixV] using hv, by simp [fixV]⟩
  | .ifc _, v, h, μ, u, I, hv => ⟨μ, by simpa [fixV] using I, Hd.le.refl μ, by simpa [fixV] using hv, by simp [fixV]⟩
theorem fixL_sound {B : Base} {S : BSet} {w : World} (ots : List OT) : ∀ (ts : List VT) (vs : List V) (h : Hp) (μ : Hd) (us : List Value), Inv B μ S w h → VRepL μ S w vs us →
    ∃ μ', Inv B μ' S w (fixL ots ts vs h).2 ∧ μ.le μ' ∧ VRepL μ' S w (fixL ots ts vs h).1 us ∧ h <+: (fixL ots ts vs h).2
  | [], vs, h, μ, us, I, hv => ⟨μ, by simpa [fixL] using I, Hd.le.refl μ, by simpa [fixL] using hv, by simp [fixL]⟩
  | t :: ts, [], h, μ, us, I, hv => ⟨μ, by simpa [fixL] using I, Hd.le.refl μ, by simpa [fixL] using hv, by simp [fixL]⟩
  | t :: ts, v :: vs, h, μ, us, I, hv => by
    simp only [VRepL] at hv
    obtain ⟨u, us, rfl, h1, h2⟩ := hv
    obtain ⟨μ1, I1, l1, v1, p1⟩ := fixV_sound ots t v h μ u I h1
    obtain ⟨μ2, I2, l2, v2, p2⟩ := fixL_sound ots ts vs (fixV ots t v h).2 μ1 us I1 (VRepL.keep l1 (Keeps.refl S w) _ _ h2)
    refine ⟨μ2, I2, l1.trans l2, ?_, p1.trans p2⟩
    simp only [fixL, VRepL]
    exact ⟨u, us, rfl, VRep.keep l2 (Keeps.refl S w) _ _ v1, v2⟩
end

/-- A variable's cells told in another way. -/
theorem Inv.recell {B : Base} {μ : Hd} {S : BSet} {w : World} {h : Hp} (I : Inv B μ S w h) {o : Nat} {vs vs' : List V} (ho : h[o]? = some (.cells vs)) (hv : ∀ g cs T, μ o = some (.pointer (some ⟨g, 0, none⟩)) → w.heap[g]? = some (.cells cs T (0, 0)) → VRepL μ S w vs' cs.toList) : Inv B μ S w (h.set o (.cells vs')) := by
  obtain ⟨u, hm⟩ := I.dom o _ ho (by simp)
  have key : ∀ {i : Nat} {x : Ob}, (h.set o (.cells vs'))[i]? = some x → ∃ x0, h[i]? = some x0 ∧ (∀ v, ownB x v = ownB x0 v) ∧ (x = x0 ∨ (i = o ∧ x = .cells vs' ∧ x0 = .cells vs)) := by
    intro i x h1
    rcases get_set h1 with ⟨rfl, rfl, _⟩ | ⟨_, h1'⟩
    · exact ⟨_, ho, fun v => by cases v <;> first | rfl | (rename_i a; cases a <;> rfl), .inr ⟨rfl, rfl, rfl⟩⟩
    · exact ⟨x, h1', fun _ => rfl, .inl rfl⟩
  refine ⟨I.base, I.dom_set (fun _ => ⟨u, hm⟩), fun i hi => I.fresh i (by simpa using hi), fun i x v h1 h2 => ?_, fun i i' x x' v v' b h1 h2 h3 h4 h5 h6 => ?_, fun i x v b h1 h2 h3 => ?_, I.lt, I.sub⟩
  · obtain ⟨x0, h3, h4, rfl | ⟨rfl, rfl, rfl⟩⟩ := key h1
    · exact I.obj i x v h3 h2
    · obtain ⟨g, cs, T, rfl, hg, hvs, h1c⟩ := I.obj _ _ _ h3 h2
      exact ⟨g, cs, T, rfl, hg, hv g cs T h2 hg, h1c⟩
  · obtain ⟨x0, p1, p2, _⟩ := key h1
    obtain ⟨x1, q1, q2, _⟩ := key h2
    exact I.sep i i' x0 x1 v v' b p1 q1 h3 h4 (by rw [← p2]; exact h5) (by rw [← q2]; exact h6)
  · obtain ⟨x0, p1, p2, _⟩ := key h1
    exact I.out i x0 v b p1 h2 (by rw [← p2]; exact h3)

theorem fixH_sound {B : Base} {S : BSet} {w : World} (ots : List OT) : ∀ (l : List OT) (i : Nat) (h : Hp) (μ : Hd), Inv B μ S w h → ∃ μ', Inv B μ' S w (fixH ots i l h) ∧ μ.le μ' ∧ h.length ≤ (fixH ots i l h).length
  | [], i, h, μ, I => ⟨μ, by simpa [fixH] using I, Hd.le.refl μ, by simp [fixH]⟩
  | ot :: l, i, h, μ, I => by
    cases ot with
    | cells ts =>
      simp only [fixH]
      split
      · rename_i vs ho
        obtain ⟨u, hm⟩ := I.dom i _ ho (by simp)
        obtain ⟨g, cs, T, hu, hg, hvs, h1⟩ := I.obj i _ u ho hm
        obtain ⟨μ1, I1, l1, v1, p1⟩ := fixL_sound ots ts vs h μ cs.toList I hvs
        have ho1 := pre_eq p1 ho
        have I2 := I1.recell (vs' := (fixL ots ts vs h).1) ho1 (fun g' cs' T' hm' hg' => by
          rw [l1 _ _ hm, hu] at hm'; cases hm'
          rw [hg] at hg'; cases hg'
          exact v1)
        obtain ⟨μ2, I3, l2, hlen⟩ := fixH_sound ots l (i + 1) _ μ1 I2
        refine ⟨μ2, I3, l1.trans l2, Nat.le_trans p1.length_le (Nat.le_trans (by simp) hlen)⟩
      · exact fixH_sound ots l (i + 1) h μ I
    | row c E e => simp only [fixH]; exact fixH_sound ots l (i + 1) h μ I
    | arr c e => simp only [fixH]; exact fixH_sound ots l (i + 1) h μ I
    | fro c E e => simp only [fixH]; exact fixH_sound ots l (i + 1) h μ I
    | dead => simp only [fixH]; exact fixH_sound ots l (i + 1) h μ I

/-! ### New numbers -/

theorem addR_nodup {o : Nat} {s : List Nat} (h : s.Nodup) : (addR o s).Nodup := by
  unfold addR
  split
  · exact h
  · rename_i hn
    have hn' : o ∉ s := by simpa using hn
    exact List.nodup_append.2 ⟨h, by simp, fun a ha b hb => by simp at hb; subst hb; intro e; subst e; exact hn' ha⟩

mutual
theorem rowsV_nodup : ∀ (v : V) (s : List Nat), s.Nodup → (rowsV v s).Nodup
  | .row o, s, h => by simp only [rowsV]; exact addR_nodup h
  | .sub o _ _ _, s, h => by simp only [rowsV]; exact addR_nodup h
  | .agg vs, s, h => by simp only [rowsV]; exact rowsL_nodup vs s h
  | .fn _ vs, s, h => by simp only [rowsV]; exact rowsL_nodup vs s h
  | .tup vs, s, h => by simp only [rowsV]; exact rowsL_nodup vs s h
  | .undef, s, h => by simpa only [rowsV] using h
  | .skp, s, h => by simpa only [rowsV] using h
  | .kb _, s, h => by simpa only [rowsV] using h
  | .dat _ _, s, h => by simpa only [rowsV] using h
  | .nils, s, h => by simpa only [rowsV] using h
  | .ip _ _, s, h => by simpa only [rowsV] using h
  | .cp _ _, s, h => by simpa only [rowsV] using h
  | .ep _ _ _ _, s, h => by simpa only [rowsV] using h
  | .ap _, s, h => by simpa only [rowsV] using h
  | .ifc _, s, h => by simpa only [rowsV] using h
theorem rowsL_nodup : ∀ (vs : List V) (s : List Nat), s.Nodup → (rowsL vs s).Nodup
  | [], s, h => by simpa only [rowsL] using h
  | v :: vs, s, h => by simp only [rowsL]; exact rowsL_nodup vs _ (rowsV_nodup v s h)
end
theorem rowsH_nodup : ∀ (h : Hp) (s : List Nat), s.Nodup → (rowsH h s).Nodup
  | [], s, hs => by simpa only [rowsH] using hs
  | ob :: h, s, hs => by
    cases ob with
    | cells vs => simp only [rowsH]; exact rowsH_nodup h _ (rowsL_nodup vs s hs)
    | _ => simp only [rowsH]; exact rowsH_nodup h s hs

theorem posOf_spec {o : Nat} : ∀ (s : List Nat) (m n : Nat), posOf o s m = some n → ∃ j, n = m + j ∧ s[j]? = some o
  | [], m, n, h => by simp [posOf] at h
  | x :: s, m, n, h => by
    simp only [posOf] at h
    split at h
    · rename_i hx
      cases h
      exact ⟨0, rfl, by simp [hx]⟩
    · obtain ⟨j, h1, h2⟩ := posOf_spec s (m + 1) n h
      exact ⟨j + 1, by omega, by simpa using h2⟩

/-- Headers under new numbers. -/
def Hd.mv (μ : Hd) (m : Nat) (s : List Nat) : Hd := fun k => if k < m then μ k else match s[k - m]? with | some o => μ o | none => none

theorem Hd.mv_pos {μ : Hd} {m : Nat} {s : List Nat} {o n : Nat} (h : posOf o s m = some n) : μ.mv m s n = μ o := by
  obtain ⟨j, rfl, hj⟩ := posOf_spec s m n h
  unfold Hd.mv
  rw [if_neg (by omega), Nat.add_sub_cancel_left, hj]
theorem Hd.mv_low {μ : Hd} {m : Nat} {s : List Nat} {o : Nat} (h : o < m) : μ.mv m s o = μ o := by simp [Hd.mv, h]

theorem hdr_eq {μ μ' : Hd} {o n g : Nat} (he : μ' n = μ o) (h : hdr μ o g) : hdr μ' n g := by
  unfold hdr at *
  rw [he]; exact h

mutual
theorem mv_rep {μ : Hd} {S : BSet} {w : World} (m : Nat) (s : List Nat) : ∀ (v : V) (u : Value), VRep μ S w v u → VRep (μ.mv m s) S w (mvV m s v) u
  | .row o, u, h => by
    simp only [VRep] at h
    simp only [mvV]
    split
    · rename_i n hn
      simp only [VRep]
      exact ⟨by rw [Hd.mv_pos hn]; exact h.1, h.2⟩
    · simp [VRep]
  | .sub o e a b, u, h => by
    simp only [VRep] at h
    simp only [mvV]
    split
    · rename_i n hn
      simp only [VRep]
      obtain ⟨a0, n0, c0, p0, h1, h2⟩ := h
      exact ⟨a0, n0, c0, p0, by rw [Hd.mv_pos hn]; exact h1, h2⟩
    · simp [VRep]
  | .cp o i, u, h => by
    simp only [VRep] at h
    simp only [mvV]
    split
    · rename_i hlt
      simp only [VRep]
      obtain ⟨g, h1, h2⟩ := h
      exact ⟨g, by rw [Hd.mv_low hlt]; exact h1, h2⟩
    · simp [VRep]
  | .ap o, u, h => by
    simp only [VRep] at h
    simp only [mvV]
    split
    · rename_i hlt
      simp only [VRep]
      obtain ⟨g, h1, h2⟩ := h
      exact ⟨g, by rw [Hd.mv_low hlt]; exact h1, h2⟩
    · simp [VRep]
  | .ep o e i fs, u, h => by
    simp only [VRep] at h
    obtain ⟨g, h1, h2⟩ := h
    simp only [mvV]
    split
    · rename_i n hn
      simp only [VRep]
      exact ⟨g, hdr_eq (Hd.mv_pos hn) h1, h2⟩
    · split
      · rename_i hlt
        simp only [VRep]
        exact ⟨g, hdr_eq (Hd.mv_low hlt) h1, h2⟩
      · simp [VRep]
  | .agg vs, u, h => by
    simp only [VRep] at h
    simp only [mvV, VRep]
    obtain ⟨cs, h1, h2, h3⟩ := h
    exact ⟨cs, h1, mvL_rep m s vs _ h2, h3⟩
  | .fn f vs, u, h => by
    simp only [VRep] at h
    simp only [mvV, VRep]
    obtain ⟨cs, h1, h2⟩ := h
    exact ⟨cs, h1, mvL_rep m s vs _ h2⟩
  | .tup vs, u, h => by
    simp only [VRep] at h
    simp only [mvV, VRep]
    obtain ⟨cs, h1, h2⟩ := h
    exact ⟨cs, h1, mvL_rep m s vs _ h2⟩
  | .undef, u, h => by simp [mvV, VRep]
  | .skp, u, h => by simpa only [mvV, VRep] using h
  | .kb _, u, h => by simpa only [mvV, VRep] using h
  | .dat _ _, u, h => by simpa only [mvV, VRep] using h
  | .nils, u, h => by simpa only [mvV, VRep] using h
  | .ip _ _, u, h => by simpa only [mvV, VRep] using h
  | .ifc _, u, h => by simpa only [mvV, VRep] using h
theorem mvL_rep {μ : Hd} {S : BSet} {w : World} (m : Nat) (s : List Nat) : ∀ (vs : List V) (us : List Value), VRepL μ S w vs us → VRepL (μ.mv m s) S w (mvL m s vs) us
  | [], us, h => by simpa only [mvL, VRepL] using h
  | v :: vs, us, h => by
    simp only [VRepL] at h
    simp only [mvL, VRepL]
    obtain ⟨u, r, h1, h2, h3⟩ := h
    exact ⟨u, r, h1, mv_rep m s v u h2, mvL_rep m s vs r h3⟩
end

theorem mvH_get {m : Nat} {s : List Nat} : ∀ (h : Hp) (i k : Nat) (ob : Ob), (mvH m s i h)[k]? = some ob → ∃ ob0, h[k]? = some ob0 ∧ (ob = .dead ∨ (s.contains (i + k) = false ∧ ((∃ vs, ob0 = .cells vs ∧ ob = .cells (mvL m s vs)) ∨ (ob = ob0 ∧ ∀ vs, ob0 ≠ .cells vs))))
  | [], i, k, ob, h => by simp [mvH] at h
  | x :: h, i, 0, ob, hk => by
    simp only [mvH, List.getElem?_cons_zero, Option.some.injEq] at hk
    refine ⟨x, rfl, ?_⟩
    split at hk
    · exact .inl hk.symm
    · rename_i hc
      refine .inr ⟨by simpa using hc, ?_⟩
      cases x with
      | cells vs => exact .inl ⟨vs, rfl, hk.symm⟩
      | _ => exact .inr ⟨hk.symm, fun vs h => by cases h⟩
  | x :: h, i, k + 1, ob, hk => by
    simp only [mvH, List.getElem?_cons_succ] at hk
    obtain ⟨ob0, h1, h2⟩ := mvH_get h (i + 1) k ob hk
    refine ⟨ob0, by simpa using h1, ?_⟩
    rwa [show i + 1 + k = i + (k + 1) by omega] at h2

theorem mvH_length {m : Nat} {s : List Nat} : ∀ (h : Hp) (i : Nat), (mvH m s i h).length = h.length
  | [], i => rfl
  | x :: h, i => by simp [mvH, mvH_length h (i + 1)]

/-- The heap under new numbers. -/
theorem Inv.mv {B : Base} {μ : Hd} {S : BSet} {w : World} {h : Hp} (I : Inv B μ S w h) {m : Nat} (hm : m ≤ h.length) {s : List Nat} (hs : s.Nodup) : Inv B (μ.mv m s) S w (mvH m s 0 (h.take m) ++ s.map fun o => rowAt h o) := by
  have hl : (mvH m s 0 (h.take m)).length = m := by rw [mvH_length, List.length_take]; omega
  have owncells : ∀ (vs vs' : List V) (u : Value), ownB (.cells vs) u = ownB (.cells vs') u := fun vs vs' u => by cases u <;> first | rfl | (rename_i a; cases a <;> rfl)
  -- where an object was
  have key : ∀ {k : Nat} {ob : Ob}, (mvH m s 0 (h.take m) ++ s.map fun o => rowAt h o)[k]? = some ob → ob ≠ .dead →
      ∃ o ob0, h[o]? = some ob0 ∧ μ.mv m s k = μ o ∧ ((∃ vs, ob0 = .cells vs ∧ ob = .cells (mvL m s vs)) ∨ (ob = ob0 ∧ ∀ vs, ob0 ≠ .cells vs)) ∧ ((k < m ∧ o = k ∧ o ∉ s) ∨ (m ≤ k ∧ s[k - m]? = some o)) := by
    intro k ob hk hd
    by_cases hkm : k < m
    · rw [List.getElem?_append_left (by omega)] at hk
      obtain ⟨ob0, h1, h2⟩ := mvH_get _ _ _ _ hk
      rcases h2 with h2 | ⟨h2, h3⟩
      · exact absurd h2 hd
      · rw [List.getElem?_take, if_pos hkm] at h1
        exact ⟨k, ob0, h1, Hd.mv_low hkm, h3, .inl ⟨hkm, rfl, by simpa using h2⟩⟩
    · rw [List.getElem?_append_right (by omega), hl, List.getElem?_map] at hk
      cases hso : s[k - m]? with
      | none => rw [hso] at hk; cases hk
      | some o =>
        rw [hso] at hk
        simp only [Option.map_some, Option.some.injEq] at hk
        unfold rowAt at hk
        split at hk
        · exact absurd hk.symm hd
        · rename_i x hx hho
          exact ⟨o, x, hho, by simp [Hd.mv, hkm, hso], .inr ⟨hk.symm, hx⟩, .inr ⟨by omega, rfl⟩⟩
        · exact absurd hk.symm hd
  have alive : ∀ {ob : Ob} {u : Value} {b : Nat}, ownB ob u = some b → ob ≠ .dead := by rintro ob u b h rfl; simp [ownB] at h
  have own0 : ∀ {ob ob0 : Ob} {u : Value}, ((∃ vs, ob0 = .cells vs ∧ ob = .cells (mvL m s vs)) ∨ (ob = ob0 ∧ ∀ vs, ob0 ≠ .cells vs)) → ownB ob u = ownB ob0 u := by
    rintro ob ob0 u (⟨vs, rfl, rfl⟩ | ⟨rfl, _⟩)
    · exact owncells _ _ _
    · rfl
  refine ⟨I.base, fun k ob h1 h2 => ?_, fun k hk => ?_, fun k ob u h1 h2 => ?_, fun k k' ob ob' u u' b h1 h2 h3 h4 h5 h6 => ?_, fun k ob u b h1 h2 h3 => ?_, I.lt, I.sub⟩
  · obtain ⟨o, ob0, p1, p2, p3, _⟩ := key h1 h2
    have hd0 : ob0 ≠ .dead := by
      rintro rfl
      rcases p3 with ⟨vs, h, _⟩ | ⟨h, _⟩
      · cases h
      · exact h2 h
    obtain ⟨u, hu⟩ := I.dom o ob0 p1 hd0
    exact ⟨u, by rw [p2]; exact hu⟩
  · simp only [List.length_append, hl, List.length_map] at hk
    simp only [Hd.mv, show ¬ k < m by omega, if_false]
    rw [List.getElem?_eq_none (by omega)]
  · by_cases hd : ob = .dead
    · subst hd; trivial
    · obtain ⟨o, ob0, p1, p2, p3, _⟩ := key h1 hd
      rw [p2] at h2
      have hr := I.obj o ob0 u p1 h2
      rcases p3 with ⟨vs, rfl, rfl⟩ | ⟨rfl, hnc⟩
      · obtain ⟨g, cs, T, rfl, hg, hvs, h1c⟩ := hr
        exact ⟨g, cs, T, rfl, hg, mvL_rep m s _ _ hvs, h1c⟩
      · cases ob with
        | cells vs => exact absurd rfl (hnc vs)
        | row E e l => exact hr
        | arr e l => exact hr
        | fro E e l => exact hr
        | dead => trivial
  · obtain ⟨o, ob0, p1, p2, p3, p4⟩ := key h1 (alive h5)
    obtain ⟨o', ob0', q1, q2, q3, q4⟩ := key h2 (alive h6)
    rw [p2] at h3
    rw [q2] at h4
    have := I.sep o o' ob0 ob0' u u' b p1 q1 h3 h4 (by rw [← own0 p3]; exact h5) (by rw [← own0 q3]; exact h6)
    subst this
    rcases p4 with ⟨p5, p6, p7⟩ | ⟨p5, p6⟩ <;> rcases q4 with ⟨q5, q6, q7⟩ | ⟨q5, q6⟩
    · omega
    · exact absurd (List.mem_of_getElem? q6) p7
    · exact absurd (List.mem_of_getElem? p6) q7
    · have h7 : k - m < s.length := by obtain ⟨h, _⟩ := List.getElem?_eq_some_iff.1 p6; exact h
      have h8 : k' - m < s.length := by obtain ⟨h, _⟩ := List.getElem?_eq_some_iff.1 q6; exact h
      have h9 := (List.getElem?_inj h7 hs).1 (p6.trans q6.symm)
      omega
  · obtain ⟨o, ob0, p1, p2, p3, _⟩ := key h1 (alive h3)
    rw [p2] at h2
    exact I.out o ob0 u b p1 h2 (by rw [← own0 p3]; exact h3)

end X
end Go.Proofs.YtjnfmjeiceiciaaGreat

/-
States read by forms and filled out of them.
-/
namespace Go.Proofs.YtjnfmjeiceiciaaGreat
namespace X
open Go Go.RowKit
set_option linter.unusedVariables false
set_option linter.unusedSimpArgs false
set_option linter.unnecessarySimpa false
set_option linter.unusedSectionVars false

/-- A slot's value. -/
def slotU (tmps : List Value) (i : Nat) : Value := tmps.getD i Go.undef

theorem slots_rep {μ : Hd} {S : BSet} {w : World} {e : Env} {us : List Value} (he : VRepL μ S w e us) : ∀ ix : List Nat, VRepL μ S w (ix.map fun i => e.getD i .undef) (ix.map (slotU us))
  | [] => by simp [VRepL]
  | i :: ix => by
    simp only [List.map_cons, VRepL]
    refine ⟨_, _, rfl, ?_, slots_rep he ix⟩
    rw [List.getD_eq_getElem?_getD]
    cases h : e[i]? with
    | none => simp [VRep]
    | some v =>
      obtain ⟨u, h1, h2⟩ := VRepL.get e us he i v h
      simp [slotU, List.getD_eq_getElem?_getD, h1, h2]

theorem norm_sound {B : Base} {μ : Hd} {S : BSet} {w : World} {e : Env} {h : Hp} {us : List Value} (I : Inv B μ S w h) (he : VRepL μ S w e us) (T : Tmpl) (hm : T.m ≤ h.length) :
    ∃ μ', Inv B μ' S w (norm T e h).2 ∧ VRepL μ' S w (norm T e h).1 (T.ix.map (slotU us)) := by
  have hv := slots_rep he T.ix
  obtain ⟨μ1, I1, l1, v1, p1⟩ := fixL_sound T.hp T.env (T.ix.map fun i => e.getD i .undef) h μ _ I hv
  obtain ⟨μ2, I2, l2, hlen⟩ := fixH_sound T.hp (T.hp.take T.m) 0 (fixL T.hp T.env (T.ix.map fun i => e.getD i .undef) h).2 μ1 I1
  have hm2 : T.m ≤ (fixH T.hp 0 (T.hp.take T.m) (fixL T.hp T.env (T.ix.map fun i => e.getD i .undef) h).2).length := Nat.le_trans hm (Nat.le_trans p1.length_le hlen)
  exact ⟨_, I2.mv hm2 (rowsH_nodup _ _ (rowsL_nodup _ _ List.nodup_nil)), mvL_rep T.m _ _ _ (VRepL.keep l2 (Keeps.refl S w) _ _ v1)⟩

/-! ### Filling -/

/-- What stays is as it was. -/
def Same (cs : List Dt) (cl : List (Nat × Dt)) : Prop := ∀ j d, (j, d) ∈ cl → cs[j]? = some d

theorem take1_got {cs : List Dt} {c : Option Nat} {d : Dt} (hs : Same cs (got c d).1) (rest : List Dt) : take1 cs ((got c d).2 ++ rest) c = some (d, rest) := by
  cases c with
  | none => rfl
  | some j =>
    have := hs j d (by simp [got])
    simp [take1, got, this]

theorem Same.left {cs : List Dt} {a b : Got} (h : Same cs (a.app b).1) : Same cs a.1 := fun j d hj => h j d (List.mem_append_left _ hj)
theorem Same.right {cs : List Dt} {a b : Got} (h : Same cs (a.app b).1) : Same cs b.1 := fun j d hj => h j d (List.mem_append_right _ hj)
theorem Got.app2 (a b : Got) (rest : List Dt) : (a.app b).2 ++ rest = a.2 ++ (b.2 ++ rest) := by simp [Got.app]

/-- Less is known. -/
def Wk (v v' : V) : Prop := ∀ μ S w u, VRep μ S w v u → VRep μ S w v' u
def WkL (vs vs' : List V) : Prop := ∀ μ S w us, VRepL μ S w vs us → VRepL μ S w vs' us

theorem WkL.cons {v v' : V} {vs vs' : List V} (h : Wk v v') (k : WkL vs vs') : WkL (v :: vs) (v' :: vs') := fun μ S w us hu => by
  simp only [VRepL] at *
  obtain ⟨u, r, h1, h2, h3⟩ := hu
  exact ⟨u, r, h1, h _ _ _ _ h2, k _ _ _ _ h3⟩

mutual
theorem fillVT_sound (cs : List Dt) : ∀ (t : VT) (v : V) (g : Got) (rest : List Dt), matVT t v = some g → Same cs g.1 → ∃ v', fillVT cs t (g.2 ++ rest) = some (v', rest) ∧ Wk v v'
  | .u, v, g, rest, h, hs => by
    simp only [matVT, Option.some.injEq] at h
    subst h
    exact ⟨.undef, rfl, fun _ _ _ _ _ => by simp [VRep]⟩
  | .kb b, v, g, rest, h, hs => by
    cases v <;> simp only [matVT, reduceCtorEq] at h
    split at h
    · rename_i hb; subst hb
      cases h
      exact ⟨_, rfl, fun _ _ _ _ h => h⟩
    · cases h
  | .nils, v, g, rest, h, hs => by
    cases v <;> simp only [matVT, reduceCtorEq] at h
    cases h
    exact ⟨_, rfl, fun _ _ _ _ h => h⟩
  | .d c t, v, g, rest, h, hs => by
    cases v <;> simp only [matVT, reduceCtorEq] at h
    · split at h
      · rename_i ht; subst ht
        cases h
        refine ⟨_, by simp only [fillVT, take1_got hs]; rfl, fun μ S w u hu => ?_⟩
        simp only [VRep] at hu
        exact vrep_bool.2 hu
      · cases h
    · split at h
      · rename_i ht; subst ht
        cases h
        exact ⟨_, by simp only [fillVT, take1_got hs]; rfl, fun _ _ _ _ h => h⟩
      · cases h
  | .ip c t, v, g, rest, h, hs => by
    cases v <;> simp only [matVT, reduceCtorEq] at h
    split at h
    · rename_i ht; subst ht
      cases h
      exact ⟨_, by simp only [fillVT, take1_got hs]; rfl, fun _ _ _ _ h => h⟩
    · cases h
  | .ag ts, v, g, rest, h, hs => by
    cases v <;> simp only [matVT, reduceCtorEq] at h
    obtain ⟨vs', h1, h2⟩ := fillVL_sound cs ts _ g rest h hs
    refine ⟨.agg vs', by simp only [fillVT, h1], fun μ S w u hu => ?_⟩
    simp only [VRep] at hu ⊢
    obtain ⟨c, p1, p2, p3⟩ := hu
    exact ⟨c, p1, h2 _ _ _ _ p2, p3⟩
  | .cp o off, v, g, rest, h, hs => by
    cases v <;> simp only [matVT, reduceCtorEq] at h
    split at h
    · rename_i ho
      obtain ⟨rfl, rfl⟩ := ho
      cases h
      exact ⟨_, rfl, fun _ _ _ _ h => h⟩
    · cases h
  | .ep c o e fs, v, g, rest, h, hs => by
    cases v <;> simp only [matVT, reduceCtorEq] at h
    split at h
    · rename_i ho
      obtain ⟨rfl, rfl, rfl⟩ := ho
      cases h
      exact ⟨_, by simp only [fillVT, take1_got hs], fun _ _ _ _ h => h⟩
    · cases h
  | .ap o, v, g, rest, h, hs => by
    cases v <;> simp only [matVT, reduceCtorEq] at h
    split at h
    · rename_i ho; subst ho
      cases h
      exact ⟨_, rfl, fun _ _ _ _ h => h⟩
    · cases h
  | .row o, v, g, rest, h, hs => by
    cases v <;> simp only [matVT, reduceCtorEq] at h
    split at h
    · rename_i ho; subst ho
      cases h
      exact ⟨_, rfl, fun _ _ _ _ h => h⟩
    · cases h
  | .sub c c' o e, v, g, rest, h, hs => by
    cases v <;> simp only [matVT, reduceCtorEq] at h
    split at h
    · rename_i ho
      obtain ⟨rfl, rfl⟩ := ho
      cases h
      refine ⟨_, by simp only [fillVT, Got.app2, take1_got hs.left, take1_got hs.right], fun _ _ _ _ h => h⟩
    · cases h
  | .fn f ts, v, g, rest, h, hs => by
    cases v <;> simp only [matVT, reduceCtorEq] at h
    split at h
    · rename_i hf; subst hf
      obtain ⟨vs', h1, h2⟩ := fillVL_sound cs ts _ g rest h hs
      refine ⟨.fn f vs', by simp only [fillVT, h1], fun μ S w u hu => ?_⟩
      simp only [VRep] at hu ⊢
      obtain ⟨c, p1, p2⟩ := hu
      exact ⟨c, p1, h2 _ _ _ _ p2⟩
    · cases h
  | .ifc b, v, g, rest, h, hs => by
    cases v <;> simp only [matVT, reduceCtorEq] at h
    split at h
    · rename_i hb; subst hb
      cases h
      exact ⟨_, rfl, fun _ _ _ _ h => h⟩
    · cases h
theorem fillVL_sound (cs : List Dt) : ∀ (ts : List VT) (vs : List V) (g : Got) (rest : List Dt), matVL ts vs = some g → Same cs g.1 → ∃ vs', fillVL cs ts (g.2 ++ rest) = some (vs', rest) ∧ WkL vs vs'
  | [], [], g, rest, h, hs => by
    simp only [matVL, Option.some.injEq] at h
    subst h
    exact ⟨[], rfl, fun _ _ _ _ h => h⟩
  | t :: ts, v :: vs, g, rest, h, hs => by
    simp only [matVL] at h
    split at h
    · rename_i g1 h1
      split at h
      · rename_i g2 h2
        cases h
        obtain ⟨v', a1, a2⟩ := fillVT_sound cs t v g1 (g2.2 ++ rest) h1 hs.left
        obtain ⟨vs', b1, b2⟩ := fillVL_sound cs ts vs g2 rest h2 hs.right
        exact ⟨v' :: vs', by simp only [fillVL, Got.app2, a1, b1], WkL.cons a2 b2⟩
      · cases h
    · cases h
  | [], _ :: _, g, rest, h, hs => by simp [matVL] at h
  | _ :: _, [], g, rest, h, hs => by simp [matVL] at h
end

/-- An object of which less is known. -/
def WkO (ob ob' : Ob) : Prop := ob' = .dead ∨ ob' = ob ∨ ∃ vs vs', ob = .cells vs ∧ ob' = .cells vs' ∧ WkL vs vs'

theorem fillOT_sound (cs : List Dt) (t : OT) (ob : Ob) (g : Got) (rest : List Dt) (h : matOT t ob = some g) (hs : Same cs g.1) : ∃ ob', fillOT cs t (g.2 ++ rest) = some (ob', rest) ∧ WkO ob ob' := by
  cases t with
  | cells ts =>
    cases ob <;> simp only [matOT, reduceCtorEq] at h
    obtain ⟨vs', h1, h2⟩ := fillVL_sound cs ts _ g rest h hs
    exact ⟨.cells vs', by simp only [fillOT, h1], .inr (.inr ⟨_, _, rfl, rfl, h2⟩)⟩
  | row c E e =>
    cases ob <;> simp only [matOT, reduceCtorEq] at h
    split at h
    · rename_i ho
      obtain ⟨rfl, rfl⟩ := ho
      cases h
      exact ⟨_, by simp only [fillOT, take1_got hs]; rfl, .inr (.inl rfl)⟩
    · cases h
  | arr c e =>
    cases ob <;> simp only [matOT, reduceCtorEq] at h
    split at h
    · rename_i ho
      subst ho
      cases h
      exact ⟨_, by simp only [fillOT, take1_got hs]; rfl, .inr (.inl rfl)⟩
    · cases h
  | fro c E e =>
    cases ob <;> simp only [matOT, reduceCtorEq] at h
    split at h
    · rename_i ho
      obtain ⟨rfl, rfl⟩ := ho
      cases h
      exact ⟨_, by simp only [fillOT, take1_got hs]; rfl, .inr (.inl rfl)⟩
    · cases h
  | dead =>
    simp only [matOT, Option.some.injEq] at h
    subst h
    exact ⟨.dead, rfl, .inl rfl⟩

inductive WkH : Hp → Hp → Prop where
  | nil : WkH [] []
  | cons {ob ob' : Ob} {h h' : Hp} : WkO ob ob' → WkH h h' → WkH (ob :: h) (ob' :: h')

theorem fillOL_sound (cs : List Dt) : ∀ (ts : List OT) (h : Hp) (g : Got) (rest : List Dt), matOL ts h = some g → Same cs g.1 → ∃ h', fillOL cs ts (g.2 ++ rest) = some (h', rest) ∧ WkH h h'
  | [], [], g, rest, h, hs => by
    simp only [matOL, Option.some.injEq] at h
    subst h
    exact ⟨[], rfl, .nil⟩
  | t :: ts, v :: vs, g, rest, h, hs => by
    simp only [matOL] at h
    split at h
    · rename_i g1 h1
      split at h
      · rename_i g2 h2
        cases h
        obtain ⟨v', a1, a2⟩ := fillOT_sound cs t v g1 (g2.2 ++ rest) h1 hs.left
        obtain ⟨vs', b1, b2⟩ := fillOL_sound cs ts vs g2 rest h2 hs.right
        exact ⟨v' :: vs', by simp only [fillOL, Got.app2, a1, b1], .cons a2 b2⟩
      · cases h
    · cases h
  | [], _ :: _, g, rest, h, hs => by simp [matOL] at h
  | _ :: _, [], g, rest, h, hs => by simp [matOL] at h

theorem WkH.get : ∀ {h h' : Hp}, WkH h h' → ∀ (k : Nat) (ob' : Ob), h'[k]? = some ob' → ∃ ob, h[k]? = some ob ∧ WkO ob ob'
  | _, _, .nil, k, ob', hk => by simp at hk
  | _, _, .cons h1 h2, 0, ob', hk => by simp at hk; subst hk; exact ⟨_, rfl, h1⟩
  | _, _, .cons h1 h2, k + 1, ob', hk => by
    obtain ⟨ob, h3, h4⟩ := WkH.get h2 k ob' (by simpa using hk)
    exact ⟨ob, by simpa using h3, h4⟩
theorem WkH.len : ∀ {h h' : Hp}, WkH h h' → h'.length = h.length
  | _, _, .nil => rfl
  | _, _, .cons _ h2 => by simp [WkH.len h2]

theorem Inv.weak {B : Base} {μ : Hd} {S : BSet} {w : World} {h h' : Hp} (I : Inv B μ S w h) (k : WkH h h') : Inv B μ S w h' := by
  have owncells : ∀ (vs vs' : List V) (u : Value), ownB (.cells vs) u = ownB (.cells vs') u := fun vs vs' u => by cases u <;> first | rfl | (rename_i a; cases a <;> rfl)
  have key : ∀ {i : Nat} {ob' : Ob}, h'[i]? = some ob' → ob' ≠ .dead → ∃ ob, h[i]? = some ob ∧ ob ≠ .dead ∧ (∀ u, ownB ob' u = ownB ob u) ∧ (ob' = ob ∨ ∃ vs vs', ob = .cells vs ∧ ob' = .cells vs' ∧ WkL vs vs') := by
    intro i ob' h1 hd
    obtain ⟨ob, h2, h3⟩ := k.get i ob' h1
    rcases h3 with h3 | rfl | ⟨vs, vs', rfl, rfl, h4⟩
    · exact absurd h3 hd
    · exact ⟨_, h2, hd, fun _ => rfl, .inl rfl⟩
    · exact ⟨_, h2, by simp, fun u => owncells _ _ _, .inr ⟨vs, vs', rfl, rfl, h4⟩⟩
  have alive : ∀ {ob : Ob} {u : Value} {b : Nat}, ownB ob u = some b → ob ≠ .dead := by rintro ob u b h rfl; simp [ownB] at h
  refine ⟨I.base, fun i ob h1 h2 => ?_, fun i hi => I.fresh i (by rw [← k.len]; exact hi), fun i ob u h1 h2 => ?_, fun i i' ob ob' u u' b h1 h2 h3 h4 h5 h6 => ?_, fun i ob u b h1 h2 h3 => ?_, I.lt, I.sub⟩
  · obtain ⟨ob0, p1, p2, _⟩ := key h1 h2
    exact I.dom i ob0 p1 p2
  · by_cases hd : ob = .dead
    · subst hd; trivial
    · obtain ⟨ob0, p1, p2, p3, rfl | ⟨vs, vs', rfl, rfl, h4⟩⟩ := key h1 hd
      · exact I.obj i _ u p1 h2
      · obtain ⟨g, cs, T, rfl, hg, hvs, h1c⟩ := I.obj i _ u p1 h2
        exact ⟨g, cs, T, rfl, hg, h4 _ _ _ _ hvs, h1c⟩
  · obtain ⟨ob0, p1, p2, p3, _⟩ := key h1 (alive h5)
    obtain ⟨ob1, q1, q2, q3, _⟩ := key h2 (alive h6)
    exact I.sep i i' ob0 ob1 u u' b p1 q1 h3 h4 (by rw [← p3]; exact h5) (by rw [← q3]; exact h6)
  · obtain ⟨ob0, p1, p2, p3, _⟩ := key h1 (alive h3)
    exact I.out i ob0 u b p1 h2 (by rw [← p3]; exact h3)

theorem layE_rep {μ : Hd} {S : BSet} {w : World} {us : List Value} : ∀ (ix : List Nat) (vs : List V) (e : Env), VRepL μ S w e us → VRepL μ S w vs (ix.map (slotU us)) → VRepL μ S w (layE e ix vs) us
  | [], vs, e, he, _ => by cases vs <;> simpa [layE] using he
  | i :: ix, [], e, he, _ => by simpa [layE] using he
  | i :: ix, v :: vs, e, he, hv => by
    simp only [List.map_cons, VRepL] at hv
    obtain ⟨u, r, h1, h2, h3⟩ := hv
    simp only [List.cons.injEq] at h1
    obtain ⟨rfl, rfl⟩ := h1
    simp only [layE]
    refine layE_rep ix vs _ ?_ h3
    have := VRepL.set e us i v (slotU us i) he h2
    have e2 : us.set i (slotU us i) = us := by
      apply List.ext_getElem?
      intro j
      rw [List.getElem?_set]
      split
      · rename_i hj; subst hj
        split
        · rename_i hlt; simp [slotU, List.getD_eq_getElem?_getD, hlt]
        · rename_i hn; rw [List.getElem?_eq_none (by omega)]
      · rfl
    rwa [e2] at this

theorem undef_rep {μ : Hd} {S : BSet} {w : World} : ∀ us : List Value, VRepL μ S w (List.replicate us.length .undef) us
  | [] => by simp [VRepL]
  | u :: us => by
    simp only [List.length_cons, List.replicate_succ, VRepL]
    exact ⟨u, us, rfl, trivial, undef_rep us⟩

/-- A state read by a form is filled out of it. -/
theorem mat_sound {B : Base} {μ : Hd} {S : BSet} {w : World} {e : Env} {h : Hp} {us : List Value} (I : Inv B μ S w h) (he : VRepL μ S w e us) {T : Tmpl} {cl : List (Nat × Dt)} {ml : List Dt} (hm : matT T e h = some (cl, ml)) {cs : List Dt} (hs : Same cs cl) :
    ∃ e2 h2 μ2, fillT T cs ml = some (e2, h2) ∧ Inv B μ2 S w h2 ∧ VRepL μ2 S w e2 us := by
  unfold matT at hm
  split at hm
  · rename_i hc
    obtain ⟨hn, hmle⟩ := hc
    obtain ⟨μ2, I2, v2⟩ := norm_sound I he T hmle
    simp only at hm
    split at hm
    · rename_i g1 h1
      split at hm
      · rename_i g2 h2
        have hg : g1.app g2 = (cl, ml) := by simpa using hm
        have hs' : Same cs (g1.app g2).1 := by rw [hg]; exact hs
        obtain ⟨vs', a1, a2⟩ := fillVL_sound cs T.env _ g1 (g2.2 ++ []) h1 hs'.left
        obtain ⟨h', b1, b2⟩ := fillOL_sound cs T.hp _ g2 [] h2 hs'.right
        have hml : ml = g1.2 ++ (g2.2 ++ []) := by
          have : (g1.app g2).2 = ml := by rw [hg]
          rw [← this]; simp [Got.app]
        refine ⟨layE (List.replicate T.n .undef) T.ix vs', h', μ2, ?_, I2.weak b2, ?_⟩
        · unfold fillT
          rw [hml, a1]
          simp only [b1]
        · rw [hn, ← VRepL.len e us he]
          exact layE_rep T.ix vs' _ (undef_rep us) (a2 _ _ _ _ v2)
      · cases hm
    · cases hm
  · cases hm

theorem consts_same : ∀ (cl : List (Nat × Dt)) (n : Nat) (cs : List Dt), consts cl n = some cs → ∀ j d, (j, d) ∈ cl → n ≤ j ∧ cs[j - n]? = some d
  | [], n, cs, h, j, d, hj => by cases hj
  | (i, x) :: cl, n, cs, h, j, d, hj => by
    simp only [consts] at h
    split at h
    · rename_i hi
      subst hi
      split at h
      · rename_i l hl
        cases h
        rcases List.mem_cons.1 hj with hj | hj
        · cases hj; exact ⟨Nat.le_refl _, by simp⟩
        · obtain ⟨h1, h2⟩ := consts_same cl (i + 1) l hl j d hj
          refine ⟨by omega, ?_⟩
          rw [show j - i = (j - (i + 1)) + 1 by omega]
          simpa using h2
      · cases h
    · cases h

theorem pack_unpack : ∀ (t : Ty) (l : List Dt) (x : t.D), pack t l = some x → unpack t x = l
  | .unit, [], x, h => rfl
  | .unit, _ :: _, x, h => by simp [pack] at h
  | .pair a b, [], x, h => by simp [pack] at h
  | .pair a b, d :: l, x, h => by
    simp only [pack] at h
    split at h
    · rename_i g
      split at h
      · rename_i y hy
        cases h
        have := pack_unpack b l y hy
        obtain ⟨dt, dx⟩ := d
        simp only at g
        subst g
        simp [unpack, this]
      · cases h
    · cases h
  | .int _, l, x, h => by cases l <;> simp [pack] at h
  | .bool, l, x, h => by cases l <;> simp [pack] at h
  | .str, l, x, h => by cases l <;> simp [pack] at h
  | .slice _ _, l, x, h => by cases l <;> simp [pack] at h

theorem stays_same (cs : List Dt) : ∀ ix : List Nat, Same cs (stays cs ix)
  | [], j, d, h => by cases h
  | i :: ix, j, d, h => by
    simp only [stays] at h
    split at h
    · rename_i x hx
      rcases List.mem_cons.1 h with h | h
      · cases h; exact hx
      · exact stays_same cs ix j d h
    · exact stays_same cs ix j d h

end X
end Go.Proofs.YtjnfmjeiceiciaaGreat

/-
Code: the theorem. Loops.
-/
namespace Go.Proofs.YtjnfmjeiceiciaaGreat
namespace X
open Go Go.RowKit
set_option linter.unusedVariables false
set_option linter.unusedSimpArgs false
set_option linter.unnecessarySimpa false
set_option linter.unusedSectionVars false

def exitOf : Ex → Exit
  | .normal => .normal
  | .exit id => .exit id
  | .ret => .ret

/-- Behind a piece of code. -/
def Post (B : Base) (S0 : BSet) (w0 : World) (df : List Deferred) (x : Ex) (e' : Env) (h' : Hp) : Exit → Act → World → Prop := fun y a w =>
  y = exitOf x ∧ a.defers = df ∧ ∃ μ S, Keeps S0 S w0 w ∧ Inv B μ S w h' ∧ VRepL μ S w e' a.tmps.toList

/-- What a piece of code told by a function comes to. -/
def fragEnd (fr : Frag) (cs : List Dt) : (fr.O.D ⊕ fr.R.D) → Option (Ex × Env × Hp)
  | .inl o => (fillT fr.o cs (unpack fr.O o)).map fun p => (.normal, p.1, p.2)
  | .inr r => (fillT fr.r cs (unpack fr.R r)).map fun p => (.ret, p.1, p.2)

/-- A piece of code is what its function tells. -/
def FragOK (P : Program) (fr : Frag) (c : Code) : Prop :=
  ∀ (B : Base) (c0 : fr.C.D) (m0 : fr.M.D) (p : fr.O.D ⊕ fr.R.D) (e : Env) (h : Hp) (μ : Hd) (S : BSet) (a : Act) (w : World) (x : Ex) (e' : Env) (h' : Hp),
    fr.f c0 m0 = some p → fillT fr.i (unpack fr.C c0) (unpack fr.M m0) = some (e, h) → fragEnd fr (unpack fr.C c0) p = some (x, e', h') → Inv B μ S w h → VRepL μ S w e a.tmps.toList →
    c.wp P (Post B S w a.defers x e' h') a w

/-- The pieces of code in a piece of code are what their functions tell. -/
def CodeOK (P : Program) (tb : Tabs) (fid : Nat) : Code → Prop
  | .seq a b => CodeOK P tb fid a ∧ CodeOK P tb fid b
  | .cond _ a b => CodeOK P tb fid a ∧ CodeOK P tb fid b
  | .block id a => match tb.fr fid (2 * id) with
    | some fr => FragOK P fr (.block id a)
    | none => CodeOK P tb fid a
  | _ => True

theorem useFrag_spec {fr : Frag} {e : Env} {h : Hp} {x : Ex} {e' : Env} {h' : Hp} (hr : (useFrag fr e h).run = some (x, e', h')) : ∃ cl ml c0 m0 p, matT fr.i e h = some (cl, ml) ∧ Same (unpack fr.C c0) cl ∧ unpack fr.M m0 = ml ∧ fr.f c0 m0 = some p ∧ fragEnd fr (unpack fr.C c0) p = some (x, e', h') := by
  unfold useFrag at hr
  split at hr
  · rename_i cl ml hm
    split at hr
    · rename_i cs hcs
      split at hr
      · rename_i c m hc hmm
        obtain ⟨p, hp, hr⟩ := Tr.run_bind hr
        have hu := pack_unpack _ _ _ hc
        refine ⟨cl, ml, c, m, p, hm, ?_, pack_unpack _ _ _ hmm, hp, ?_⟩
        · rw [hu]
          intro j d hj
          have := (consts_same cl 0 cs hcs j d hj).2
          simpa using this
        · rw [hu]
          cases p with
          | inl o =>
            simp only [Tr.run] at hr
            simp only [fragEnd]
            split at hr
            · rename_i e2 h2 hf
              simp only [Tr.run, Option.some.injEq, Prod.mk.injEq] at hr
              obtain ⟨rfl, rfl, rfl⟩ := hr
              rw [hf]; rfl
            · cases hr
          | inr o =>
            simp only [Tr.run] at hr
            simp only [fragEnd]
            split at hr
            · rename_i e2 h2 hf
              simp only [Tr.run, Option.some.injEq, Prod.mk.injEq] at hr
              obtain ⟨rfl, rfl, rfl⟩ := hr
              rw [hf]; rfl
            · cases hr
      · cases hr
    · cases hr
  · cases hr

theorem Post.widen {B : Base} {S0 S : BSet} {w0 w : World} {df : List Deferred} (hk : Keeps S0 S w0 w) {x : Ex} {e' : Env} {h' : Hp} {y : Exit} {a : Act} {w' : World} (h : Post B S w df x e' h' y a w') : Post B S0 w0 df x e' h' y a w' := by
  obtain ⟨h1, h2, μ, S', h3, h4, h5⟩ := h
  exact ⟨h1, h2, μ, S', hk.trans h3, h4, h5⟩

theorem cond_bool {μ : Hd} {S : BSet} {w : World} {e : Env} {a : Act} (he : VRepL μ S w e a.tmps.toList) {t : Nat} {b : Bool} (h : e.getD t .undef = .kb b ∨ e.getD t .undef = .dat .bool b) : a.eval (.tmp t) = .bool b := by
  have := getV_rep he (.tmp t)
  simp only [getV] at this
  rcases h with h | h
  · rw [h] at this; simpa only [VRep] using this
  · rw [h] at this; exact vrep_bool.1 this

theorem ex_sound {P : Program} {tb : Tabs} (ht : TabOK P tb.tt) (hs : SigsOK P tb) (hmix : P.follows .mixedOrders = true) {B : Base} {fid : Nat} : ∀ (c : Code) (e : Env) (h : Hp) (x : Ex) (e' : Env) (h' : Hp) (μ : Hd) (S : BSet) (a : Act) (w : World),
    CodeOK P tb fid c → (ex tb fid c e h).run = some (x, e', h') → Inv B μ S w h → VRepL μ S w e a.tmps.toList → c.wp P (Post B S w a.defers x e' h') a w
  | .skip, e, h, x, e', h', μ, S, a, w, hc, hr, I, he => by
    simp only [ex, Tr.run, Option.some.injEq, Prod.mk.injEq] at hr
    obtain ⟨rfl, rfl, rfl⟩ := hr
    exact wp_skip ⟨rfl, rfl, μ, S, Keeps.refl S w, I, he⟩
  | .label l, e, h, x, e', h', μ, S, a, w, hc, hr, I, he => by
    simp only [ex, Tr.run, Option.some.injEq, Prod.mk.injEq] at hr
    obtain ⟨rfl, rfl, rfl⟩ := hr
    exact wp_label ⟨rfl, rfl, μ, S, Keeps.refl S w, I, he⟩
  | .exit j, e, h, x, e', h', μ, S, a, w, hc, hr, I, he => by
    simp only [ex, Tr.run, Option.some.injEq, Prod.mk.injEq] at hr
    obtain ⟨rfl, rfl, rfl⟩ := hr
    exact wp_exit ⟨rfl, rfl, μ, S, Keeps.refl S w, I, he⟩
  | .ret, e, h, x, e', h', μ, S, a, w, hc, hr, I, he => by
    simp only [ex, Tr.run, Option.some.injEq, Prod.mk.injEq] at hr
    obtain ⟨rfl, rfl, rfl⟩ := hr
    exact wp_ret ⟨rfl, rfl, μ, S, Keeps.refl S w, I, he⟩
  | .region rid ops draw, e, h, x, e', h', μ, S, a, w, hc, hr, I, he => by
    have fin : ∀ (x' : Env × Hp) {t : Tr (Env × Hp)}, (t.map fun x => (Ex.normal, x.1, x.2)).run = some (x, e', h') → t.run = some (e', h') ∧ x = .normal := by
      intro _ t hq
      rw [Tr.run_map] at hq
      cases ht' : t.run with
      | none => rw [ht'] at hq; cases hq
      | some p =>
        rw [ht'] at hq
        cases hq
        exact ⟨rfl, rfl⟩
    simp only [ex] at hr
    cases draw with
    | true =>
      simp only [if_true] at hr
      split at hr
      · rename_i hord
        obtain ⟨h1, rfl⟩ := fin ([], []) hr
        exact draw_sound ht hs hmix hord h1 I he fun a2 w2 μ2 S2 p1 p2 p3 p4 => ⟨rfl, p1, μ2, S2, p2, p3, p4⟩
      · cases hr
    | false =>
      simp only [Bool.false_eq_true, if_false] at hr
      obtain ⟨h1, rfl⟩ := fin ([], []) hr
      refine wp_region ?_
      have := opsV_sound (P := P) (fid := fid) (rid := rid) (Q := Post B S w a.defers .normal e' h') (S0 := S) (w0 := w) (df := a.defers) ht hs (fun a2 w2 μ2 S2 p1 p2 p3 p4 => ⟨rfl, p1, μ2, S2, p2, p3, p4⟩) ops.toList 0 e h μ S a w rfl h1 I he rfl (Keeps.refl S w)
      rw [List.range_eq_range']
      simpa using this
  | .seq c1 c2, e, h, x, e', h', μ, S, a, w, hc, hr, I, he => by
    simp only [ex] at hr
    rw [Tr.run_bnd] at hr
    cases h1 : (ex tb fid c1 e h).run with
    | none => rw [h1] at hr; cases hr
    | some p =>
      obtain ⟨x1, e1, h1'⟩ := p
      rw [h1] at hr
      simp only [Option.bind_some] at hr
      have ih1 := ex_sound ht hs hmix c1 e h x1 e1 h1' μ S a w hc.1 h1 I he
      refine wp_seq (wp_mono ih1 fun y a1 w1 hp => ?_)
      obtain ⟨rfl, hd, μ1, S1, k1, I1, v1⟩ := hp
      cases x1 with
      | normal =>
        simp only at hr
        have ih2 := ex_sound ht hs hmix c2 e1 h1' x e' h' μ1 S1 a1 w1 hc.2 hr I1 v1
        rw [hd] at ih2
        exact wp_mono ih2 fun y a2 w2 hp => Post.widen k1 hp
      | exit j =>
        simp only [Tr.run, Option.some.injEq, Prod.mk.injEq] at hr
        obtain ⟨rfl, rfl, rfl⟩ := hr
        exact ⟨rfl, hd, μ1, S1, k1, I1, v1⟩
      | ret =>
        simp only [Tr.run, Option.some.injEq, Prod.mk.injEq] at hr
        obtain ⟨rfl, rfl, rfl⟩ := hr
        exact ⟨rfl, hd, μ1, S1, k1, I1, v1⟩
  | .cond c c1 c2, e, h, x, e', h', μ, S, a, w, hc, hr, I, he => by
    have go : ∀ (b : Bool) (e2 : Env), a.eval c = .bool b → VRepL μ S w e2 a.tmps.toList → (if b then ex tb fid c1 e2 h else ex tb fid c2 e2 h).run = some (x, e', h') → (Code.cond c c1 c2).wp P (Post B S w a.defers x e' h') a w := by
      intro b e2 hb he2 hq
      refine wp_cond hb ?_
      cases b with
      | true => simp only [if_true] at hq ⊢; exact ex_sound ht hs hmix c1 e2 h x e' h' μ S a w hc.1 hq I he2
      | false => simp only [Bool.false_eq_true, if_false] at hq ⊢; exact ex_sound ht hs hmix c2 e2 h x e' h' μ S a w hc.2 hq I he2
    cases c with
    | const v =>
      cases v with
      | bool b => simp only [ex] at hr; exact go b e rfl he (by cases b <;> simpa using hr)
      | _ => simp only [ex] at hr; cases hr
    | tmp t =>
      simp only [ex] at hr
      split at hr
      · rename_i b hb
        exact go b e (cond_bool he (.inl hb)) he (by cases b <;> simpa using hr)
      · rename_i b hb
        have hbv := cond_bool he (.inr hb)
        rcases Tr.run_ite hr with ⟨hb1, hq⟩ | ⟨hb1, hq⟩
        · subst hb1; exact go true _ hbv (know_rep he hb) (by simpa using hq)
        · subst hb1; exact go false _ hbv (know_rep he hb) (by simpa using hq)
      · cases hr
    | global g => simp only [ex] at hr; cases hr
    | func f => simp only [ex] at hr; cases hr
  | .block id c, e, h, x, e', h', μ, S, a, w, hc, hr, I, he => by
    simp only [ex] at hr
    simp only [CodeOK] at hc
    cases hfr : tb.fr fid (2 * id) with
    | some fr =>
      rw [hfr] at hr hc
      simp only at hr hc
      obtain ⟨cl, ml, c0, m0, p, h1, h2, h3, h4, h5⟩ := useFrag_spec hr
      obtain ⟨e2, h2', μ2, h6, h7, h8⟩ := mat_sound I he h1 h2
      rw [← h3] at h6
      exact hc B c0 m0 p e2 h2' μ2 S a w x e' h' h4 h6 h5 h7 h8
    | none =>
      rw [hfr] at hr hc
      simp only at hr hc
      rw [Tr.run_bnd] at hr
      cases h1 : (ex tb fid c e h).run with
      | none => rw [h1] at hr; cases hr
      | some p =>
        obtain ⟨x1, e1, h1'⟩ := p
        rw [h1] at hr
        simp only [Option.bind_some] at hr
        have ih1 := ex_sound ht hs hmix c e h x1 e1 h1' μ S a w hc h1 I he
        refine wp_block (wp_mono ih1 fun y a1 w1 hp => ?_)
        obtain ⟨rfl, hd, μ1, S1, k1, I1, v1⟩ := hp
        cases x1 with
        | normal =>
          simp only [Tr.run, Option.some.injEq, Prod.mk.injEq] at hr
          obtain ⟨rfl, rfl, rfl⟩ := hr
          exact ⟨rfl, hd, μ1, S1, k1, I1, v1⟩
        | exit j =>
          simp only at hr
          split at hr
          · rename_i hj
            simp only [Tr.run, Option.some.injEq, Prod.mk.injEq] at hr
            obtain ⟨rfl, rfl, rfl⟩ := hr
            simp only [exitOf, Exit.inBlock, hj, if_true]
            exact ⟨rfl, hd, μ1, S1, k1, I1, v1⟩
          · rename_i hj
            simp only [Tr.run, Option.some.injEq, Prod.mk.injEq] at hr
            obtain ⟨rfl, rfl, rfl⟩ := hr
            simp only [exitOf, Exit.inBlock, hj, if_false]
            exact ⟨rfl, hd, μ1, S1, k1, I1, v1⟩
        | ret =>
          simp only [Tr.run, Option.some.injEq, Prod.mk.injEq] at hr
          obtain ⟨rfl, rfl, rfl⟩ := hr
          exact ⟨rfl, hd, μ1, S1, k1, I1, v1⟩
  | .loop c, e, h, x, e', h', μ, S, a, w, hc, hr, I, he => by simp only [ex] at hr; cases hr
  | .rangeFunc f ps as c, e, h, x, e', h', μ, S, a, w, hc, hr, I, he => by simp only [ex] at hr; cases hr
  | .scope c, e, h, x, e', h', μ, S, a, w, hc, hr, I, he => by simp only [ex] at hr; cases hr
  | .goto l, e, h, x, e', h', μ, S, a, w, hc, hr, I, he => by simp only [ex] at hr; cases hr
  | .refuse s, e, h, x, e', h', μ, S, a, w, hc, hr, I, he => by simp only [ex] at hr; cases hr

end X
end Go.Proofs.YtjnfmjeiceiciaaGreat

/-
Loops by their rounds.
-/
namespace Go.Proofs.YtjnfmjeiceiciaaGreat
namespace X
open Go Go.RowKit
set_option linter.unusedVariables false
set_option linter.unusedSimpArgs false
set_option linter.unnecessarySimpa false
set_option linter.unusedSectionVars false

/-- A loop from the head of a round on. -/
def RoundWp (P : Program) (c : Code) (Q : Exit → Act → World → Prop) (a : Act) (w : World) : Prop :=
  ∀ (b : Frame) (k : List Item) (cs : List Frame), ∃ e a' w', Q e a' w' ∧ Arrives P (lone (b.at a (.code c :: .inLoop c :: k)) cs w) b k cs e a' w'

theorem RoundWp.of {P : Program} {c : Code} {Q : Exit → Act → World → Prop} {a : Act} {w : World} (h : c.wp P (Exit.then (RoundWp P c Q) Q) a w) : RoundWp P c Q a w := by
  intro b k cs
  obtain ⟨e, a₁, w₁, hq, harr⟩ := h b (.inLoop c :: k) cs
  cases e with
  | normal =>
    obtain ⟨e₂, a₂, w₂, hq₂, harr₂⟩ := hq b k cs
    exact ⟨e₂, a₂, w₂, hq₂, .of_steps (Steps.trans harr (.one step_inLoop)) harr₂⟩
  | exit id => exact ⟨_, a₁, w₁, hq, .pass (x := .inLoop c) rfl (fun _ _ => .inl (by simp)) harr⟩
  | goto l => exact ⟨_, a₁, w₁, hq, .pass (x := .inLoop c) rfl (fun _ _ => .inl (by simp)) harr⟩
  | ret => exact ⟨_, a₁, w₁, hq, .pass (x := .inLoop c) rfl (fun _ _ => .inl (by simp)) harr⟩
  | panic ch => exact ⟨_, a₁, w₁, hq, .pass (x := .inLoop c) rfl (fun _ _ => .inl (by simp)) harr⟩
  | outgrown => exact ⟨_, a₁, w₁, hq, .pass (x := .inLoop c) rfl (fun _ _ => .inl (by simp)) harr⟩

theorem RoundWp.loop {P : Program} {c : Code} {Q : Exit → Act → World → Prop} {a : Act} {w : World} (h : RoundWp P c Q a w) : (Code.loop c).wp P Q a w := fun b k cs => by
  obtain ⟨e, a', w', hq, harr⟩ := h b k cs
  exact ⟨e, a', w', hq, .of_steps (.one step_loop) harr⟩

/-- The end of a round, read by the forms, fits what stays. -/
theorem leaf_cases {id : Nat} {i o r : Tmpl} {M O R : Ty} {x : Ex} {e : Env} {h : Hp} {cl : List (Nat × Dt)} {lf : Leaf M.D O.D R.D} (hl : leafOf id i o r M O R (x, e, h) = some (cl, lf)) :
    (∃ m l, x = .normal ∧ lf = .more m ∧ matT i e h = some (cl, l) ∧ unpack M m = l) ∨ (∃ m l, x = .exit id ∧ lf = .out m ∧ matT o e h = some (cl, l) ∧ unpack O m = l) ∨ (∃ m l, x = .ret ∧ lf = .ret m ∧ matT r e h = some (cl, l) ∧ unpack R m = l) := by
  unfold leafOf at hl
  simp only at hl
  split at hl
  · split at hl
    · rename_i c l hm
      split at hl
      · rename_i m hp
        cases hl
        exact .inl ⟨m, l, rfl, rfl, hm, pack_unpack _ _ _ hp⟩
      · cases hl
    · cases hl
  · rename_i j
    split at hl
    · rename_i hj
      subst hj
      split at hl
      · rename_i c l hm
        split at hl
        · rename_i m hp
          cases hl
          exact .inr (.inl ⟨m, l, rfl, rfl, hm, pack_unpack _ _ _ hp⟩)
        · cases hl
      · cases hl
    · cases hl
  · split at hl
    · rename_i c l hm
      split at hl
      · rename_i m hp
        cases hl
        exact .inr (.inr ⟨m, l, rfl, rfl, hm, pack_unpack _ _ _ hp⟩)
      · cases hl
    · cases hl

/-- A loop is what its rounds tell. -/
theorem loop_ok {P : Program} {tb : Tabs} (ht : TabOK P tb.tt) (hs : SigsOK P tb) (hmix : P.follows .mixedOrders = true) {fid : Nat} {fn : Func} {body a : Code} (hb : fn.body = some body) {id : Nat} (hat : loopAt id body = some a) (hc : CodeOK P tb fid a)
    (i o r : Tmpl) (C M O R : Ty) (BB : C.D → M.D → Tr (Leaf M.D O.D R.D)) (N : Nat) (ci co cr : List Nat)
    (heq : ∀ c m, roundV tb fid fn id i o r M O R (unpack C c) m = (BB c m).map (withC (stays (unpack C c) ci) (stays (unpack C c) co) (stays (unpack C c) cr))) :
    FragOK P ⟨i, o, r, C, M, O, R, fun c m => iterT (BB c) N m⟩ (.block id (.loop a)) := by
  intro B c0 m0 p e h μ S act w x e' h' hf hfill hend I he
  -- every round
  have key : ∀ (n : Nat) (m : M.D) (e : Env) (h : Hp) (μ : Hd) (S1 : BSet) (a1 : Act) (w1 : World), iterT (BB c0) n m = some p → fillT i (unpack C c0) (unpack M m) = some (e, h) → Inv B μ S1 w1 h → VRepL μ S1 w1 e a1.tmps.toList →
      Keeps S S1 w w1 → a1.defers = act.defers → RoundWp P a (Exit.inBlock id (Post B S w act.defers x e' h')) a1 w1 := by
    intro n
    induction n with
    | zero => intro m e h μ S1 a1 w1 hit; simp [iterT] at hit
    | succ n ih =>
      intro m e h μ S1 a1 w1 hit hfl I1 he1 hk hd
      simp only [iterT] at hit
      have hq := heq c0 m
      unfold roundV at hq
      simp only [hb, hat, hfl] at hq
      have hq' := congrArg Tr.run hq
      rw [Tr.run_map, Tr.run_map] at hq'
      cases hB : (BB c0 m).run with
      | none => rw [hB] at hit; cases hit
      | some lf =>
        rw [hB] at hq' hit
        simp only [Option.map_some] at hq'
        cases hex : (ex tb fid a e h).run with
        | none => rw [hex] at hq'; cases hq'
        | some y =>
          obtain ⟨x1, e1, h1⟩ := y
          rw [hex] at hq'
          simp only [Option.map_some, Option.some.injEq] at hq'
          have hexs := ex_sound ht hs hmix a e h x1 e1 h1 μ S1 a1 w1 hc hex I1 he1
          have same : ∀ ix : List Nat, Same (unpack C c0) (stays (unpack C c0) ix) := fun ix => stays_same _ ix
          refine RoundWp.of (wp_mono hexs fun y a2 w2 hp => ?_)
          obtain ⟨rfl, hd2, μ2, S2, k2, I2, v2⟩ := hp
          cases lf with
          | more m1 =>
            simp only [withC] at hq'
            rcases leaf_cases hq' with ⟨m', l, rfl, hlf, hm, hu⟩ | ⟨m', l, rfl, hlf, _⟩ | ⟨m', l, rfl, hlf, _⟩
            · cases hlf
              obtain ⟨e3, h3, μ3, f3, I3, v3⟩ := mat_sound I2 v2 hm (same _)
              rw [← hu] at f3
              simp only at hit
              exact ih m1 e3 h3 μ3 S2 a2 w2 hit f3 I3 v3 (hk.trans k2) (hd2.trans hd)
            · cases hlf
            · cases hlf
          | out m1 =>
            simp only [withC] at hq'
            rcases leaf_cases hq' with ⟨m', l, rfl, hlf, _⟩ | ⟨m', l, rfl, hlf, hm, hu⟩ | ⟨m', l, rfl, hlf, _⟩
            · cases hlf
            · cases hlf
              obtain ⟨e3, h3, μ3, f3, I3, v3⟩ := mat_sound I2 v2 hm (same _)
              rw [← hu] at f3
              simp only [Option.some.injEq] at hit
              subst hit
              simp only [fragEnd, f3, Option.map_some, Option.some.injEq, Prod.mk.injEq] at hend
              obtain ⟨rfl, rfl, rfl⟩ := hend
              simp only [exitOf, Exit.then, Exit.inBlock, if_true]
              exact ⟨rfl, hd2.trans hd, μ3, S2, hk.trans k2, I3, v3⟩
            · cases hlf
          | ret m1 =>
            simp only [withC] at hq'
            rcases leaf_cases hq' with ⟨m', l, rfl, hlf, _⟩ | ⟨m', l, rfl, hlf, _⟩ | ⟨m', l, rfl, hlf, hm, hu⟩
            · cases hlf
            · cases hlf
            · cases hlf
              obtain ⟨e3, h3, μ3, f3, I3, v3⟩ := mat_sound I2 v2 hm (same _)
              rw [← hu] at f3
              simp only [Option.some.injEq] at hit
              subst hit
              simp only [fragEnd, f3, Option.map_some, Option.some.injEq, Prod.mk.injEq] at hend
              obtain ⟨rfl, rfl, rfl⟩ := hend
              simp only [exitOf, Exit.then, Exit.inBlock]
              exact ⟨rfl, hd2.trans hd, μ3, S2, hk.trans k2, I3, v3⟩
  exact wp_block (RoundWp.loop (key N m0 e h μ S act w hf hfill I he (Keeps.refl S w) rfl))

end X
end Go.Proofs.YtjnfmjeiceiciaaGreat

/-
A function's loops: which code is meant; results.
-/
namespace Go.Proofs.YtjnfmjeiceiciaaGreat
namespace X
open Go Go.RowKit
set_option linter.unusedVariables false
set_option linter.unusedSimpArgs false
set_option linter.unnecessarySimpa false
set_option linter.unusedSectionVars false

/-- The blocks in a piece of code. -/
def blocksOf : Code → List Nat
  | .seq a b => blocksOf a ++ blocksOf b
  | .cond _ a b => blocksOf a ++ blocksOf b
  | .block id a => id :: blocksOf a
  | .loop a => blocksOf a
  | .scope a => blocksOf a
  | _ => []

def isLoop : Code → Bool
  | .loop _ => true
  | _ => false

/-- What is told by functions are loops. -/
def chkB (f : Nat → Bool) : Code → Bool
  | .seq a b => chkB f a && chkB f b
  | .cond _ a b => chkB f a && chkB f b
  | .block id a => (!f id || isLoop a) && chkB f a
  | .loop a => chkB f a
  | .scope a => chkB f a
  | _ => true

def nodupB : List Nat → Bool
  | [] => true
  | x :: r => !r.contains x && nodupB r

theorem nodupB_spec : ∀ l : List Nat, nodupB l = true → l.Nodup
  | [], _ => List.nodup_nil
  | x :: r, h => by
    simp only [nodupB, Bool.and_eq_true, Bool.not_eq_true', List.contains_eq_mem, decide_eq_false_iff_not] at h
    exact List.nodup_cons.2 ⟨h.1, nodupB_spec r h.2⟩

/-- A function's form: each block once; what is told by functions are loops. -/
def formB (tb : Tabs) (fid : Nat) (body : Code) : Bool := nodupB (blocksOf body) && chkB (fun id => (tb.fr fid (2 * id)).isSome) body

inductive Sub : Code → Code → Prop where
  | refl (c : Code) : Sub c c
  | seqL {c a b : Code} : Sub c a → Sub c (.seq a b)
  | seqR {c a b : Code} : Sub c b → Sub c (.seq a b)
  | condL {c a b : Code} {o : Operand} : Sub c a → Sub c (.cond o a b)
  | condR {c a b : Code} {o : Operand} : Sub c b → Sub c (.cond o a b)
  | block {c a : Code} {id : Nat} : Sub c a → Sub c (.block id a)
  | loop {c a : Code} : Sub c a → Sub c (.loop a)

theorem Sub.trans {a b c : Code} (h : Sub a b) (k : Sub b c) : Sub a c := by
  induction k with
  | refl => exact h
  | seqL _ ih => exact .seqL ih
  | seqR _ ih => exact .seqR ih
  | condL _ ih => exact .condL ih
  | condR _ ih => exact .condR ih
  | block _ ih => exact .block ih
  | loop _ ih => exact .loop ih

theorem Sub.blocks {id : Nat} {a c : Code} (h : Sub (.block id a) c) : id ∈ blocksOf c := by
  induction h with
  | refl => simp [blocksOf]
  | seqL _ ih => simp [blocksOf, ih]
  | seqR _ ih => simp [blocksOf, ih]
  | condL _ ih => simp [blocksOf, ih]
  | condR _ ih => simp [blocksOf, ih]
  | block _ ih => simp [blocksOf, ih]
  | loop _ ih => simpa [blocksOf] using ih

theorem loopAt_none {id : Nat} : ∀ c : Code, id ∉ blocksOf c → loopAt id c = none
  | .seq a b, h => by
    simp only [blocksOf, List.mem_append, not_or] at h
    simp [loopAt, loopAt_none a h.1, loopAt_none b h.2]
  | .cond _ a b, h => by
    simp only [blocksOf, List.mem_append, not_or] at h
    simp [loopAt, loopAt_none a h.1, loopAt_none b h.2]
  | .block j a, h => by
    simp only [blocksOf, List.mem_cons, not_or] at h
    have ih := loopAt_none a h.2
    cases a with
    | loop a' =>
      simp only [loopAt] at ih ⊢
      rw [if_neg (fun e => h.1 e.symm)]; exact ih
    | _ => simpa [loopAt] using ih
  | .loop a, h => by simp only [blocksOf] at h; simpa [loopAt] using loopAt_none a h
  | .scope a, h => by simp only [blocksOf] at h; simpa [loopAt] using loopAt_none a h
  | .skip, h => rfl
  | .region _ _ _, h => rfl
  | .rangeFunc _ _ _ _, h => rfl
  | .exit _, h => rfl
  | .label _, h => rfl
  | .goto _, h => rfl
  | .ret, h => rfl
  | .refuse _, h => rfl

theorem Sub.loopAt {id : Nat} {a c : Code} (h : Sub (.block id (.loop a)) c) : (blocksOf c).Nodup → X.loopAt id c = some a := by
  induction h with
  | refl => intro _; simp [X.loopAt]
  | seqL hs ih =>
    intro hn
    simp only [blocksOf] at hn
    simp [X.loopAt, ih (List.nodup_append.1 hn).1]
  | @seqR x y hs ih =>
    intro hn
    simp only [blocksOf] at hn
    have hin := Sub.blocks hs
    have hnot : id ∉ blocksOf x := fun hx => (List.nodup_append.1 hn).2.2 id hx id hin rfl
    simp [X.loopAt, loopAt_none x hnot, ih (List.nodup_append.1 hn).2.1]
  | condL hs ih =>
    intro hn
    simp only [blocksOf] at hn
    simp [X.loopAt, ih (List.nodup_append.1 hn).1]
  | @condR x y o hs ih =>
    intro hn
    simp only [blocksOf] at hn
    have hin := Sub.blocks hs
    have hnot : id ∉ blocksOf x := fun hx => (List.nodup_append.1 hn).2.2 id hx id hin rfl
    simp [X.loopAt, loopAt_none x hnot, ih (List.nodup_append.1 hn).2.1]
  | @block x j hs ih =>
    intro hn
    simp only [blocksOf] at hn
    have hin := Sub.blocks hs
    obtain ⟨h1, h2⟩ := List.nodup_cons.1 hn
    have hne : ¬ j = id := fun e => h1 (e ▸ hin)
    have ih' := ih h2
    cases x with
    | loop x' =>
      simp only [X.loopAt] at ih' ⊢
      rw [if_neg hne]; exact ih'
    | _ => simpa [X.loopAt] using ih'
  | loop hs ih =>
    intro hn
    simp only [blocksOf] at hn
    simpa [X.loopAt] using ih hn

/-- The loop at a block is what its function tells. -/
def Good (P : Program) (tb : Tabs) (fid : Nat) (body : Code) (id : Nat) : Prop := ∀ fr a, tb.fr fid (2 * id) = some fr → loopAt id body = some a → FragOK P fr (.block id (.loop a))

theorem codeOK_of {P : Program} {tb : Tabs} {fid : Nat} {body : Code} (hn : (blocksOf body).Nodup) : ∀ c : Code, Sub c body → chkB (fun id => (tb.fr fid (2 * id)).isSome) c = true → (∀ id ∈ blocksOf c, Good P tb fid body id) → CodeOK P tb fid c
  | .seq a b, hs, hk, hg => by
    simp only [chkB, Bool.and_eq_true] at hk
    exact ⟨codeOK_of hn a ((Sub.seqL (.refl _)).trans hs) hk.1 fun id h => hg id (by simp [blocksOf, h]), codeOK_of hn b ((Sub.seqR (.refl _)).trans hs) hk.2 fun id h => hg id (by simp [blocksOf, h])⟩
  | .cond o a b, hs, hk, hg => by
    simp only [chkB, Bool.and_eq_true] at hk
    exact ⟨codeOK_of hn a ((Sub.condL (.refl _)).trans hs) hk.1 fun id h => hg id (by simp [blocksOf, h]), codeOK_of hn b ((Sub.condR (.refl _)).trans hs) hk.2 fun id h => hg id (by simp [blocksOf, h])⟩
  | .block id a, hs, hk, hg => by
    simp only [chkB, Bool.and_eq_true, Bool.or_eq_true, Bool.not_eq_true'] at hk
    simp only [CodeOK]
    split
    · rename_i fr hfr
      rcases hk.1 with h | h
      · rw [hfr] at h; cases h
      · cases a with
        | loop a' => exact hg id (by simp [blocksOf]) fr a' hfr (Sub.loopAt hs hn)
        | _ => simp [isLoop] at h
    · exact codeOK_of hn a ((Sub.block (.refl _)).trans hs) hk.2 fun id h => hg id (by simp [blocksOf, h])
  | .skip, hs, hk, hg => trivial
  | .region _ _ _, hs, hk, hg => trivial
  | .loop _, hs, hk, hg => trivial
  | .scope _, hs, hk, hg => trivial
  | .rangeFunc _ _ _ _, hs, hk, hg => trivial
  | .exit _, hs, hk, hg => trivial
  | .label _, hs, hk, hg => trivial
  | .goto _, hs, hk, hg => trivial
  | .ret, hs, hk, hg => trivial
  | .refuse _, hs, hk, hg => trivial

theorem chkB_sub {f : Nat → Bool} {c body : Code} (h : Sub c body) : chkB f body = true → chkB f c = true := by
  induction h with
  | refl => exact id
  | seqL _ ih => intro h; simp only [chkB, Bool.and_eq_true] at h; exact ih h.1
  | seqR _ ih => intro h; simp only [chkB, Bool.and_eq_true] at h; exact ih h.2
  | condL _ ih => intro h; simp only [chkB, Bool.and_eq_true] at h; exact ih h.1
  | condR _ ih => intro h; simp only [chkB, Bool.and_eq_true] at h; exact ih h.2
  | block _ ih => intro h; simp only [chkB, Bool.and_eq_true] at h; exact ih h.2
  | loop _ ih => intro h; simp only [chkB] at h; exact ih h

/-- No scopes. -/
def noScope : Code → Bool
  | .seq a b => noScope a && noScope b
  | .cond _ a b => noScope a && noScope b
  | .block _ a => noScope a
  | .loop a => noScope a
  | .scope _ => false
  | _ => true

theorem loopAt_sub {id : Nat} : ∀ (c a : Code), noScope c = true → loopAt id c = some a → Sub a c
  | .seq x y, a, hn, h => by
    simp only [noScope, Bool.and_eq_true] at hn
    simp only [loopAt] at h
    split at h
    · rename_i z hz
      cases h
      exact .seqL (loopAt_sub x _ hn.1 hz)
    · exact .seqR (loopAt_sub y a hn.2 h)
  | .cond o x y, a, hn, h => by
    simp only [noScope, Bool.and_eq_true] at hn
    simp only [loopAt] at h
    split at h
    · rename_i z hz
      cases h
      exact .condL (loopAt_sub x _ hn.1 hz)
    · exact .condR (loopAt_sub y a hn.2 h)
  | .block j x, a, hn, h => by
    simp only [noScope] at hn
    cases x with
    | loop x' =>
      simp only [loopAt] at h
      split at h
      · cases h; exact .block (.loop (.refl _))
      · exact .block (.loop (loopAt_sub x' a (by simpa [noScope] using hn) h))
    | _ => exact .block (loopAt_sub (id := id) _ a hn (by simpa [loopAt] using h))
  | .loop x, a, hn, h => by
    simp only [noScope] at hn
    simp only [loopAt] at h
    exact .loop (loopAt_sub x a hn h)
  | .scope x, a, hn, h => by simp [noScope] at hn
  | .skip, a, hn, h => by simp [loopAt] at h
  | .region _ _ _, a, hn, h => by simp [loopAt] at h
  | .rangeFunc _ _ _ _, a, hn, h => by simp [loopAt] at h
  | .exit _, a, hn, h => by simp [loopAt] at h
  | .label _, a, hn, h => by simp [loopAt] at h
  | .goto _, a, hn, h => by simp [loopAt] at h
  | .ret, a, hn, h => by simp [loopAt] at h
  | .refuse _, a, hn, h => by simp [loopAt] at h

/-- A function's form: each block once; what is told by functions are loops; no scopes. -/
def formC (tb : Tabs) (fid : Nat) (body : Code) : Bool := formB tb fid body && noScope body

/-- The loops in a piece of code are told of before. -/
def innerB (tb : Tabs) (fid : Nat) (a : Code) (done : List Nat) : Bool := (blocksOf a).all fun j => (tb.fr fid (2 * j)).isNone || done.contains j

theorem inner_good {P : Program} {tb : Tabs} {fid : Nat} {body a : Code} {done : List Nat} (hd : ∀ i ∈ done, Good P tb fid body i) (h : innerB tb fid a done = true) : ∀ i ∈ blocksOf a, Good P tb fid body i := by
  intro i hi
  have := List.all_eq_true.1 h i hi
  simp only [Bool.or_eq_true, Option.isNone_iff_eq_none, List.contains_eq_mem, decide_eq_true_eq] at this
  rcases this with h | h
  · intro fr a' hfr; rw [h] at hfr; cases hfr
  · exact hd i h

/-- One loop more. -/
theorem good_step {P : Program} {tb : Tabs} (ht : TabOK P tb.tt) (hs : SigsOK P tb) (hmix : P.follows .mixedOrders = true) {fid : Nat} {fn : Func} {body a : Code} (hb : fn.body = some body) (hform : formC tb fid body = true) {done : List Nat} (hd : ∀ i ∈ done, Good P tb fid body i)
    (id : Nat) (hat : loopAt id body = some a) (hin : innerB tb fid a done = true) (i o r : Tmpl) (C M O R : Ty) (BB : C.D → M.D → Tr (Leaf M.D O.D R.D)) (N : Nat) (ci co cr : List Nat)
    (hfr : tb.fr fid (2 * id) = some ⟨i, o, r, C, M, O, R, fun c m => iterT (BB c) N m⟩)
    (heq : ∀ c m, roundV tb fid fn id i o r M O R (unpack C c) m = (BB c m).map (withC (stays (unpack C c) ci) (stays (unpack C c) co) (stays (unpack C c) cr))) : ∀ j ∈ id :: done, Good P tb fid body j := by
  simp only [formC, formB, Bool.and_eq_true] at hform
  obtain ⟨⟨hn, hk⟩, hsc⟩ := hform
  intro j hj
  rcases List.mem_cons.1 hj with rfl | hj
  · intro fr a' h1 h2
    rw [hat] at h2; cases h2
    rw [hfr] at h1; cases h1
    have hsub := loopAt_sub body a hsc hat
    exact loop_ok ht hs hmix hb hat (codeOK_of (nodupB_spec _ hn) a hsub (chkB_sub hsub hk) (inner_good hd hin)) i o r C M O R BB N ci co cr heq
  · exact hd j hj

end X
end Go.Proofs.YtjnfmjeiceiciaaGreat
