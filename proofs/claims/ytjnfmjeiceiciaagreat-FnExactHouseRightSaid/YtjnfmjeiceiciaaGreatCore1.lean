/-
The language's soundness, part 1: CoreA CoreB CoreC CoreD CoreE CoreF CoreG CoreH CoreI CoreJ CoreK CoreL CoreM CoreN.
-/
import Derived.WalkKit
import Derived.KernelRfl
import Derived.Great.FillDense
/-
A deterministic interpreter on abstract typed values for the model's code: types, values, operations; definitions alone.
-/
namespace Go.Proofs.YtjnfmjeiceiciaaGreat
namespace X
open Go
set_option linter.unusedVariables false

/-- The types of data. A slice bears its element type's number. A struct is a chain of pairs that ends in 'unit'. -/
inductive Ty where
  | int (k : IntKind)
  | bool
  | str
  | unit
  | slice (E : TypeId) (e : Ty)
  | pair (a b : Ty)
  deriving DecidableEq

/-- The data of a type. -/
abbrev Ty.D : Ty → Type
  | .int _ => Int
  | .bool => Bool
  | .str => List UInt8
  | .unit => Unit
  | .slice _ e => List e.D
  | .pair a b => a.D × b.D

/-- Whole numbers fit their kinds; lengths fit. -/
def Ok : (t : Ty) → t.D → Prop
  | .int k, n => k.min ≤ n ∧ n ≤ k.max
  | .bool, _ => True
  | .str, s => s.length ≤ 9223372036854775807
  | .unit, _ => True
  | .slice _ e, l => l.length ≤ 9223372036854775807 ∧ ∀ x ∈ l, Ok e x
  | .pair a b, x => Ok a x.1 ∧ Ok b x.2

/-- How much a datum holds. -/
def Ty.wt : (t : Ty) → t.D → Nat
  | .int _, _ => 0
  | .bool, _ => 0
  | .str, s => s.length
  | .unit, _ => 0
  | .slice _ e, l => l.length + (l.map e.wt).sum
  | .pair a b, x => a.wt x.1 + b.wt x.2

/-! Whole numbers' operations under names of their own: the printed functions use them. -/
def eqI (a b : Int) : Bool := decide (a = b)
def ltI (a b : Int) : Bool := decide (a < b)
def leI (a b : Int) : Bool := decide (a ≤ b)
def eqS (a b : List UInt8) : Bool := decide (a = b)
def addZ (a b : Int) : Int := a + b
def subZ (a b : Int) : Int := a - b
def addW (k : IntKind) (a b : Int) : Int := k.wrap (a + b)
def subW (k : IntKind) (a b : Int) : Int := k.wrap (a - b)
def mulW (k : IntKind) (a b : Int) : Int := k.wrap (a * b)
def shlW (k : IntKind) (a b : Int) : Int := k.wrap (a * 2 ^ (min (Int.toNat b) k.bits))
def shrZ (k : IntKind) (a b : Int) : Int := Int.fdiv a (2 ^ (min (Int.toNat b) k.bits))
def andW (k : IntKind) (a b : Int) : Int := k.wrap ((BitVec.toNat (BitVec.ofInt k.bits a &&& BitVec.ofInt k.bits b) : Nat) : Int)
def orW (k : IntKind) (a b : Int) : Int := k.wrap ((BitVec.toNat (BitVec.ofInt k.bits a ||| BitVec.ofInt k.bits b) : Nat) : Int)
def xorW (k : IntKind) (a b : Int) : Int := k.wrap ((BitVec.toNat (BitVec.ofInt k.bits a ^^^ BitVec.ofInt k.bits b) : Nat) : Int)
def andNotW (k : IntKind) (a b : Int) : Int := k.wrap ((BitVec.toNat (BitVec.ofInt k.bits a &&& ~~~(BitVec.ofInt k.bits b)) : Nat) : Int)
def lenI {α : Type} (l : List α) : Int := ((List.length l : Nat) : Int)

/-- How many cells a type takes. -/
def Ty.size : Ty → Nat
  | .unit => 0
  | .pair a b => a.size + b.size
  | _ => 1

def Ty.isAgg : Ty → Bool
  | .unit | .pair _ _ => true
  | _ => false

/-- The zero datum. -/
def Ty.zero : (t : Ty) → t.D
  | .int _ => (0 : Int)
  | .bool => false
  | .str => []
  | .unit => ()
  | .slice _ _ => []
  | .pair a b => (a.zero, b.zero)

/-- Equality of data that can be compared. -/
def Ty.eqb : (t : Ty) → t.D → t.D → Bool
  | .int _ => fun x y => decide (x = y)
  | .bool => fun x y => x == y
  | .str => fun x y => decide (x = y)
  | .unit => fun _ _ => true
  | .slice _ _ => fun _ _ => false
  | .pair a b => fun x y => a.eqb x.1 y.1 && b.eqb x.2 y.2

def Ty.comparable : Ty → Bool
  | .slice _ _ => false
  | .pair a b => a.comparable && b.comparable
  | _ => true

/-- No slice inside. -/
def Ty.flat : Ty → Bool
  | .slice _ _ => false
  | .pair a b => a.flat && b.flat
  | _ => true

/-- How deep a struct is nested. -/
def Ty.deep : Ty → Nat
  | .pair a b => max (a.deep + 1) b.deep
  | _ => 1

/-- What is told of a type's number. -/
inductive TI where
  | d (t : Ty)
  | arr (n : Nat) (E : TypeId) (e : Ty)
  | one            -- a cell that holds a pointer, a function, an interface value
  | bad
  deriving DecidableEq

def TI.size : TI → Nat
  | .d t => t.size
  | .arr n _ e => n * e.size
  | .one => 1
  | .bad => 0

/-- Abstract values. 'undef': nothing is known; 'skp': what an operation that is passed over leaves; 'kb': a bool that is known. 'ip': a pointer to what is never written. 'cp': into a variable's cells. 'ep': to an element, or a field of it. 'ap': to an array. -/
inductive V where
  | undef
  | skp
  | kb (b : Bool)
  | dat (t : Ty) (x : t.D)
  | nils
  | agg (vs : List V)
  | ip (t : Ty) (x : t.D)
  | cp (o off : Nat)
  | ep (o : Nat) (e : Ty) (i : Int) (fs : List Nat)
  | ap (o : Nat)
  | row (o : Nat)
  | sub (o : Nat) (e : Ty) (lo hi : Int)
  | fn (f : FuncId) (caps : List V)
  | ifc (isNil : Bool)
  | tup (vs : List V)

/-- Objects of the abstract heap: a variable's cells; a row of a slice; an array's cells; a row that is never written any more. -/
inductive Ob where
  | cells (vs : List V)
  | row (E : TypeId) (e : Ty) (l : List e.D)
  | arr (e : Ty) (l : List e.D)
  | fro (E : TypeId) (e : Ty) (l : List e.D)
  | dead

inductive Ex where
  | normal
  | exit (id : Nat)
  | ret

abbrev Env := List V
abbrev Hp := List Ob

/-- What an execution comes to: a tree of tests. -/
inductive Tr (ρ : Type) : Type 1 where
  | no
  | ret (a : ρ)
  | ite (c : Bool) (t e : Tr ρ)
  | bind {α : Type} (x : Option α) (f : α → Tr ρ)
  | sum {α β : Type} (p : α ⊕ β) (f : α → Tr ρ) (g : β → Tr ρ)

def Tr.run {ρ : Type} : Tr ρ → Option ρ
  | .no => none
  | .ret a => some a
  | .ite c t e => match c with
    | true => t.run
    | false => e.run
  | .bind x f => match x with
    | none => none
    | some a => (f a).run
  | .sum p f g => match p with
    | .inl a => (f a).run
    | .inr b => (g b).run

def Tr.bnd {ρ σ : Type} : Tr ρ → (ρ → Tr σ) → Tr σ
  | .no, _ => .no
  | .ret a, k => k a
  | .ite c t e, k => .ite c (t.bnd k) (e.bnd k)
  | .bind x f, k => .bind x fun a => (f a).bnd k
  | .sum p f g, k => .sum p (fun a => (f a).bnd k) (fun b => (g b).bnd k)

def Tr.map {ρ σ : Type} (φ : ρ → σ) : Tr ρ → Tr σ
  | .no => .no
  | .ret a => .ret (φ a)
  | .ite c t e => .ite c (t.map φ) (e.map φ)
  | .bind x f => .bind x fun a => (f a).map φ
  | .sum p f g => .sum p (fun a => (f a).map φ) (fun b => (g b).map φ)

/-- The longest row that is made here. -/
def maxRow : Nat := 4294967296
def maxStr : Nat := 9223372036854775807

section
variable (tt : TypeId → TI)

def ofC0 : Value → V
  | .bool b => .kb b
  | .int k n => .dat (.int k) n
  | .string s => .dat .str s.data.toList
  | .slice none 0 0 => .nils
  | .nilIface => .ifc true
  | _ => .undef

def ofC : Value → V
  | .agg cs => if cs.toList.all Value.oneCell' then .agg (cs.toList.map ofC0) else .undef
  | v => ofC0 v

def getV (e : Env) : Operand → V
  | .tmp t => e.getD t .undef
  | .const v => ofC v
  | .func f => .fn f []
  | .global _ => .undef

/-- A datum laid out in cells. -/
def explode : (t : Ty) → t.D → List V
  | .unit, _ => []
  | .pair a b, x => explode a x.1 ++ explode b x.2
  | t, x => [.dat t x]

def cellsOf : V → List V
  | .agg vs => vs
  | .dat t x => explode t x
  | v => [v]

/-- The zero value's cells: a slice is nil. -/
def zeroL : Ty → List V
  | .unit => []
  | .pair a b => zeroL a ++ zeroL b
  | .slice _ _ => [.nils]
  | t => [.dat t t.zero]

/-- The elements of a slice as they now stand, of the element type that is asked for. -/
def rowOf (h : Hp) (e : Ty) : V → Option (List e.D)
  | .nils => some []
  | .dat (.slice _ t) l => if g : t = e then some (g ▸ l) else none
  | .row o => match h[o]? with
    | some (.row _ t l) | some (.fro _ t l) => if g : t = e then some (g ▸ l) else none
    | _ => none
  | .sub o u lo hi => match h[o]? with
    | some (.row _ t l) | some (.fro _ t l) => if g : t = e then (if u = t then some (g ▸ ((l.take hi.toNat).drop lo.toNat)) else none) else none
    | _ => none
  | _ => none

/-- A row that is handed out is never written any more. -/
def freeze (h : Hp) : V → Hp
  | .row o | .sub o _ _ _ => match h[o]? with
    | some (.row E t l) => h.set o (.fro E t l)
    | _ => h
  | _ => h

/-- A datum out of cells; rows are frozen where 'fz' says so. -/
def implode (fz : Bool) : (t : Ty) → List V → Hp → Option (t.D × List V × Hp)
  | .unit, vs, h => some ((), vs, h)
  | .pair a b, vs, h => match implode fz a vs h with
    | some (x, vs', h') => match implode fz b vs' h' with
      | some (y, vs'', h'') => some ((x, y), vs'', h'')
      | none => none
    | none => none
  | .slice _ e, v :: vs, h => match rowOf h e v with
    | some l => some (l, vs, if fz then freeze h v else h)
    | none => none
  | .int k, .dat (.int k') n :: vs, h => if k = k' then some (n, vs, h) else none
  | .bool, .dat .bool b :: vs, h => some (b, vs, h)
  | .bool, .kb b :: vs, h => some (b, vs, h)
  | .str, .dat .str s :: vs, h => some (s, vs, h)
  | _, _, _ => none

/-- A value as a datum of a type. -/
def toD (fz : Bool) (t : Ty) (v : V) (h : Hp) : Option (t.D × Hp) :=
  match implode fz t (cellsOf v) h with
  | some (x, [], h') => some (x, h')
  | _ => none

/-- Field number i of a struct. -/
def fldT : Ty → Nat → Option Ty
  | .pair a _, 0 => some a
  | .pair _ b, i + 1 => fldT b i
  | _, _ => none
def fldOff : Ty → Nat → Nat
  | .pair _ _, 0 => 0
  | .pair a b, i + 1 => a.size + fldOff b i
  | _, _ => 0
def fld1 : (t : Ty) → t.D → Nat → Option ((u : Ty) × u.D)
  | .pair a _, x, 0 => some ⟨a, x.1⟩
  | .pair _ b, x, i + 1 => fld1 b x.2 i
  | _, _, _ => none
def getF : (t : Ty) → t.D → List Nat → Option ((u : Ty) × u.D)
  | t, x, [] => some ⟨t, x⟩
  | t, x, i :: fs => match fld1 t x i with
    | some ⟨u, y⟩ => getF u y fs
    | none => none
def set1 (φ : (u : Ty) → u.D → Option u.D) : (t : Ty) → t.D → Nat → Option t.D
  | .pair a _, x, 0 => match φ a x.1 with
    | some z => some (z, x.2)
    | none => none
  | .pair _ b, x, i + 1 => match set1 φ b x.2 i with
    | some z => some (x.1, z)
    | none => none
  | _, _, _ => none
def setF (u : Ty) (y : u.D) : List Nat → (t : Ty) → t.D → Option t.D
  | [], t, _ => if g : u = t then some (g ▸ y) else none
  | i :: fs, t, x => set1 (setF u y fs) t x i

/-- The type of a field of a field .. -/
def fldTs : Ty → List Nat → Option Ty
  | t, [] => some t
  | t, i :: fs => match fldT t i with
    | some u => fldTs u fs
    | none => none

/-- Reading element i. -/
def idx {α : Type} (l : List α) (i : Int) : Option α := if 0 ≤ i then l[i.toNat]? else none

def arith (op : BinOp) (k : IntKind) (a b : Int) : Option Int :=
  match op with
  | .add => some (k.wrap (a + b))
  | .sub => some (k.wrap (a - b))
  | .mul => some (k.wrap (a * b))
  | .and => some (k.wrap (BitVec.ofInt k.bits a &&& BitVec.ofInt k.bits b).toNat)
  | .or => some (k.wrap (BitVec.ofInt k.bits a ||| BitVec.ofInt k.bits b).toNat)
  | .xor => some (k.wrap (BitVec.ofInt k.bits a ^^^ BitVec.ofInt k.bits b).toNat)
  | .andNot => some (k.wrap (BitVec.ofInt k.bits a &&& ~~~(BitVec.ofInt k.bits b)).toNat)
  | _ => none

def cmpI (op : BinOp) (a b : Int) : Option Bool :=
  match op with
  | .eql => some (decide (a = b))
  | .neq => some (!decide (a = b))
  | .lss => some (decide (a < b))
  | .leq => some (decide (a ≤ b))
  | .gtr => some (decide (b < a))
  | .geq => some (decide (b ≤ a))
  | _ => none

def cmpS (op : BinOp) (a b : List UInt8) : Option Bool :=
  match op with
  | .eql => some (decide (a = b))
  | .neq => some (!decide (a = b))
  | .lss => some (Go.Op.bytesLess a b)
  | .leq => some (Go.Op.bytesLess a b || decide (a = b))
  | .gtr => some (!(Go.Op.bytesLess a b || decide (a = b)))
  | .geq => some (!Go.Op.bytesLess a b)
  | _ => none

/-- A value whose cells are cells. -/
def okV : V → Bool
  | .undef | .skp | .tup _ => false
  | _ => true

/-- A struct's or an array's value. -/
def aggV : V → Bool
  | .agg _ => true
  | .dat t _ => t.isAgg
  | _ => false

def boolV : V → Option Bool
  | .dat .bool b => some b
  | .kb b => some b
  | _ => none

def binV (op : BinOp) (T : TypeId) (x y : V) (h : Hp) : Tr V :=
  match x, y with
  | .dat (.int j) a, .dat (.int j') b =>
    match op with
    | .shl => .ite (decide (b < 0)) .no (.ret (.dat (.int j) (j.wrap (a * 2 ^ (min b.toNat j.bits)))))
    | .shr => .ite (decide (b < 0)) .no (.ret (.dat (.int j) (a.fdiv (2 ^ (min b.toNat j.bits)))))
    | _ => if j = j' then
        match op with
        | .quo => .ite (decide (b = 0)) .no (.ret (.dat (.int j) (j.wrap (a.tdiv b))))
        | .rem => .ite (decide (b = 0)) .no (.ret (.dat (.int j) (a.tmod b)))
        | _ => match arith op j a b with
          | some n => .ret (.dat (.int j) n)
          | none => match cmpI op a b with
            | some t => .ret (.dat .bool t)
            | none => .no
      else .no
  | .dat .str a, .dat .str b =>
    match op with
    | .add => .ite (decide (a.length + b.length ≤ maxStr)) (.ret (.dat .str (a ++ b))) .no
    | _ => match cmpS op a b with
      | some t => .ret (.dat .bool t)
      | none => .no
  | u, v =>
    match tt T with
    | .d .bool => match boolV u, boolV v with
      | some a, some b =>
        match op with
        | .eql => .ret (.dat .bool (a == b))
        | .neq => .ret (.dat .bool (!(a == b)))
        | _ => .no
      | _, _ => .no
    | .d t => if t.isAgg && t.comparable && decide (t.deep ≤ 100) && aggV u && aggV v then
        match toD false t u h, toD false t v h with
        | some (a, _), some (b, _) =>
          match op with
          | .eql => .ret (.dat .bool (t.eqb a b))
          | .neq => .ret (.dat .bool (!t.eqb a b))
          | _ => .no
        | _, _ => .no
      else .no
    | _ => .no

/-- The parts of a struct laid into its zero cells. -/
def fillV (t : Ty) : List V → List (Nat × V) → Option (List V)
  | cs, [] => some cs
  | cs, (i, v) :: r => match fldT t i with
    | some u => if (cellsOf v).length = u.size ∧ okV v = true then
        fillV t (cs.take (fldOff t i) ++ cellsOf v ++ cs.drop (fldOff t i + u.size)) r
      else none
    | none => none

/-- The elements of a literal, in their order, none left out. -/
def buildL (fz : Bool) (e : Ty) : Nat → List (Nat × V) → Hp → Option (List e.D × Hp)
  | _, [], h => some ([], h)
  | n, (i, v) :: r, h => if i = n then match toD fz e v h with
    | some (x, h') => match buildL fz e (n + 1) r h' with
      | some (l, h'') => some (x :: l, h'')
      | none => none
    | none => none
    else none

def lenV (h : Hp) : V → Option Int
  | .nils => some 0
  | .dat .str s => some s.length
  | .dat (.slice _ _) l => some l.length
  | .row o => match h[o]? with
    | some (.row _ _ l) | some (.fro _ _ l) => some l.length
    | _ => none
  | .sub o _ lo hi => match h[o]? with
    | some (.row _ _ _) | some (.fro _ _ _) => some (hi - lo)
    | _ => none
  | _ => none

def loadV (T : TypeId) (p : V) (h : Hp) : Tr V :=
  match p with
  | .ip t x => match tt T with
    | .d u => if u = t then .ret (.dat t x) else .no
    | _ => .no
  | .cp o off => match h[o]? with
    | some (.cells vs) => match tt T with
      | .d u => if off + u.size ≤ vs.length then
          if u.isAgg then .ret (.agg ((vs.drop off).take u.size)) else .ret (vs.getD off .undef)
        else .no
      | .one => if off < vs.length then .ret (vs.getD off .undef) else .no
      | _ => .no
    | _ => .no
  | .ep o e0 i fs => match h[o]?, tt T with
    | some (.row _ e l), .d u | some (.fro _ e l), .d u | some (.arr e l), .d u =>
      if e = e0 then
      .bind (idx l i) fun x => match getF e x fs with
        | some ⟨t, y⟩ => if u = t then .ret (.dat t y) else .no
        | none => .no
      else .no
    | _, _ => .no
  | _ => .no

/-- n elements out of cells. -/
def implodeN (e : Ty) : Nat → List V → Hp → Option (List e.D)
  | 0, [], _ => some []
  | 0, _, _ => none
  | n + 1, vs, h => match implode false e vs h with
    | some (x, vs', _) => match implodeN e n vs' h with
      | some l => some (x :: l)
      | none => none
    | none => none

def storeV (T : TypeId) (p v : V) (h : Hp) : Tr Hp :=
  match p with
  | .cp o off => match h[o]? with
    | some (.cells vs) =>
      if (cellsOf v).length = (tt T).size ∧ off + (tt T).size ≤ vs.length ∧ okV v = true ∧ tt T ≠ .bad then
        .ret (h.set o (.cells (vs.take off ++ cellsOf v ++ vs.drop (off + (tt T).size))))
      else .no
    | _ => .no
  | .ep o e0 i fs => match tt T with
    | .d u => match toD true u v h with
      | some (y, h') => match h'[o]? with
        | some (.row E e l) => if e = e0 then .bind (idx l i) fun x => match setF u y fs e x with
          | some z => .ret (h'.set o (.row E e (l.set i.toNat z)))
          | none => .no
          else .no
        | some (.arr e l) => if e = e0 then .bind (idx l i) fun x => match setF u y fs e x with
          | some z => .ret (h'.set o (.arr e (l.set i.toNat z)))
          | none => .no
          else .no
        | _ => .no
      | none => .no
    | _ => .no
  | .ap o => match tt T with
    | .arr n _ el => match h[o]? with
      | some (.arr e l) => if e = el ∧ e.flat = true ∧ okV v = true then match implodeN e n (cellsOf v) h with
          | some l' => .ite (decide (n ≤ l.length)) (.ret (h.set o (.arr e (l' ++ l.drop n)))) .no
          | none => .no
        else .no
      | _ => .no
    | _ => .no
  | _ => .no

def inR (lo i hi : Int) : Bool := decide (lo ≤ i) && decide (i ≤ hi)

def intV : V → Option Int
  | .dat (.int _) n => some n
  | _ => none

/-- s[lo:hi] -/
def sliceS (s : List UInt8) (lo hi : Option V) : Tr V :=
  match (match lo with | none => some 0 | some v => intV v), (match hi with | none => some (s.length : Int) | some v => intV v) with
  | some l, some u => .ite (inR 0 l u && decide (u ≤ s.length)) (.ret (.dat .str ((s.take u.toNat).drop l.toNat))) .no
  | _, _ => .no

/-- x[lo:hi] -/
def sliceV (el : Ty) (x : V) (lo hi : Option V) (h : Hp) : Tr V :=
  match (match lo with | none => some 0 | some v => intV v), (match hi with | none => lenV h x | some v => intV v), lenV h x with
  | some l, some u, some n =>
    .ite (inR 0 l u && decide (u ≤ n))
      (match x with
        | .dat (.slice E e) s => if e = el then .ret (.dat (.slice E e) ((s.take u.toNat).drop l.toNat)) else .no
        | .row o => match h[o]? with
          | some (.row _ e _) | some (.fro _ e _) => if e = el then .ret (.sub o e l u) else .no
          | _ => .no
        | .sub o e a _ => if e = el then .ret (.sub o e (a + l) (a + u)) else .no
        | .nils => .ret .nils
        | _ => .no) .no
  | _, _, _ => .no

/-- What is appended: a slice's elements, or a string's bytes. -/
def srcOf (h : Hp) (e : Ty) : V → Option (List e.D)
  | .dat (.int .i64) n => some (List.replicate (n : Int).toNat e.zero)
  | .dat .str b => if g : Ty.int .u8 = e then some (g ▸ ((b.map fun c => (c.toNat : Int)) : List (Ty.D (.int .u8)))) else none
  | v => rowOf h e v

/-- 'append(s, make([]T, n)...)' is told with the number n. -/
def zerosOk : V → Bool
  | .dat (.int .i64) n => decide ((0 : Int) ≤ n)
  | _ => true

mutual
/-- No row inside. -/
def noRow : V → Bool
  | .row _ | .sub .. => false
  | .agg vs => noRows vs
  | .tup vs => noRows vs
  | .fn _ vs => noRows vs
  | _ => true
def noRows : List V → Bool
  | [] => true
  | v :: r => noRow v && noRows r
end

def appendV (E : TypeId) (e : Ty) (s x : V) (h : Hp) : Tr (V × Hp) :=
  match rowOf h e s, srcOf h e x with
  | some l, some m =>
    .ite (decide (l.length + m.length ≤ maxRow) && zerosOk x)
      (match s with
        | .nils => .ret (.row h.length, h ++ [.row E e (l ++ m)])
        | .row o => match h[o]? with
          | some (.row E' _ _) => if E' = E then .ret (.row h.length, h.set o .dead ++ [.row E e (l ++ m)]) else .no
          | _ => .no
        | .sub o _ lo _ => match h[o]? with
          | some (.row E' _ _) => if lo = 0 ∧ E' = E then .ret (.row h.length, h.set o .dead ++ [.row E e (l ++ m)]) else .no
          | _ => .no
        | _ => .no) .no
  | _, _ => .no

/-- What is appended is what its type says. -/
def srcB : TI → V → Bool
  | .d (.int _), .dat (.int .i64) _ => true
  | .d .str, .dat .str _ => true
  | .d (.slice _ _), .dat (.int _) _ => false
  | .d (.slice _ _), .dat .str _ => false
  | .d (.slice _ _), _ => true
  | _, _ => false

end
end X
end Go.Proofs.YtjnfmjeiceiciaaGreat

/-
The interpreter: code, calls, pieces of code that are told by functions of their own; definitions alone.
-/
namespace Go.Proofs.YtjnfmjeiceiciaaGreat
namespace X
open Go
set_option linter.unusedVariables false

/-- How an argument is handed over: a datum; a pointer to what the callee only reads; a closure (its number, and what its captured pointers lead to); the nil slice; a row that becomes the callee's; a row that the callee changes in place. -/
inductive AS where
  | d
  | ip
  | fn (f : FuncId) (n : Nat)
  | nil
  | own
  | io

/-- A function that is called by its contract: its parameters (a chain of what its arguments' shapes hold), its result, whether it has several, which cells of the result are rows of its own; 'fz': rows that are handed over are never written any more; 'io': it has no result, what is told are the rows that it changes in place. -/
structure Sig where
  p : Ty
  r : Ty
  multi : Bool
  io : Bool
  own : List Bool
  fz : Bool
  f : p.D → Option r.D

/-- A datum laid out; its own rows become objects from number n on. -/
def inject : (t : Ty) → t.D → List Bool → Nat → List V × List Bool × Hp
  | .unit, _, m, _ => ([], m, [])
  | .pair a b, x, m, n =>
    match inject a x.1 m n with
    | (vs, m', h) => match inject b x.2 m' (n + h.length) with
      | (us, m'', h') => (vs ++ us, m'', h ++ h')
  | .slice E e, x, true :: m, n => ([.row n], m, [.row E e x])
  | t, x, m, _ => ([.dat t x], m.tail, [])

/-- The cells of a chain's parts, each as a value. -/
def partsV : Ty → List V → List V
  | .pair a b, vs => (if a.isAgg then .agg (vs.take a.size) else vs.headD .undef) :: partsV b (vs.drop a.size)
  | _, _ => []

def resV (r : Ty) (multi : Bool) (vs : List V) : V :=
  if multi then .tup (partsV r vs) else if r.isAgg then .agg vs else vs.headD .undef

/-- What a pointer leads to, read only. -/
def derefD (cp : Bool) (t : Ty) (h : Hp) : V → Option t.D
  | .ip u x => if g : u = t then some (g ▸ x) else none
  | .cp o off => if cp then match h[o]? with
    | some (.cells vs) => if off + t.size ≤ vs.length then match implode false t ((vs.drop off).take t.size) h with
      | some (x, [], _) => some x
      | _ => none
      else none
    | _ => none
    else none
  | _ => none

/-- A row that is owned, and where it lies. -/
def ownD (t : Ty) (h : Hp) : V → Option t.D
  | .row o => match t, h[o]? with
    | .slice E e, some (.row E' e' l) => if g : e' = e then (if E = E' then some (g ▸ l) else none) else none
    | _, _ => none
  | .nils => match t with
    | .slice _ _ => some []
    | _ => none
  | _ => none

def kill (h : Hp) : V → Hp
  | .row o => h.set o .dead
  | _ => h

/-- The arguments as a datum; the heap behind; the rows that the callee changes in place. -/
def argsD (fz cp : Bool) : List AS → (t : Ty) → List V → Hp → Option (t.D × Hp × List V)
  | [], .unit, [], h => some ((), h, [])
  | .d :: sh, .pair a b, v :: vs, h => if a.isAgg = aggV v then match toD fz a v h with
    | some (x, h') => match argsD fz cp sh b vs h' with
      | some (y, r) => some ((x, y), r)
      | none => none
    | none => none
    else none
  | .ip :: sh, .pair a b, v :: vs, h => match derefD cp a h v with
    | some x => match argsD fz cp sh b vs h with
      | some (y, r) => some ((x, y), r)
      | none => none
    | none => none
  | .fn f 0 :: sh, t, .fn g [] :: vs, h => if f = g then argsD fz cp sh t vs h else none
  | .fn f 1 :: sh, .pair a b, .fn g [v] :: vs, h => if f = g then match derefD cp a h v with
    | some x => match argsD fz cp sh b vs h with
      | some (y, r) => some ((x, y), r)
      | none => none
    | none => none
    else none
  | .fn f 2 :: sh, .pair a (.pair a' b), .fn g [v, v'] :: vs, h => if f = g then match derefD cp a h v, derefD cp a' h v' with
    | some x, some x' => match argsD fz cp sh b vs h with
      | some (y, r) => some ((x, x', y), r)
      | none => none
    | _, _ => none
    else none
  | .nil :: sh, t, .nils :: vs, h => argsD fz cp sh t vs h
  | .own :: sh, .pair a b, v :: vs, h => match ownD a h v with
    | some x => match argsD fz cp sh b vs (kill h v) with
      | some (y, r) => some ((x, y), r)
      | none => none
    | none => none
  | .io :: sh, .pair a b, v :: vs, h => match ownD a h v with
    | some x => match argsD fz cp sh b vs (kill h v) with
      | some (y, h', io) => some ((x, y), h', v :: io)
      | none => none
    | none => none
  | _, _, _, _ => none

/-- The row that was changed in place. -/
def setIO : (t : Ty) → t.D → List V → Hp → Option Hp
  | .pair (.slice E e) .unit, x, [.row o], h => some (h.set o (.row E e x.1))
  | .pair (.slice _ _) .unit, x, [.nils], h => some h
  | _, _, _, _ => none

/-- The other way: the arguments with which a function by itself is entered. -/
def argsV : List AS → (t : Ty) → t.D → Hp → List V × Hp
  | .d :: sh, .pair a b, x, h => match argsV sh b x.2 h with | (vs, h') => (.dat a x.1 :: vs, h')
  | .ip :: sh, .pair a b, x, h => match argsV sh b x.2 h with | (vs, h') => (.ip a x.1 :: vs, h')
  | .fn f 0 :: sh, t, x, h => match argsV sh t x h with | (vs, h') => (.fn f [] :: vs, h')
  | .fn f 1 :: sh, .pair a b, x, h => match argsV sh b x.2 h with | (vs, h') => (.fn f [.ip a x.1] :: vs, h')
  | .fn f 2 :: sh, .pair a (.pair a' b), x, h => match argsV sh b x.2.2 h with | (vs, h') => (.fn f [.ip a x.1, .ip a' x.2.1] :: vs, h')
  | .nil :: sh, t, x, h => match argsV sh t x h with | (vs, h') => (.nils :: vs, h')
  | .own :: sh, .pair (.slice E e) b, x, h => match argsV sh b x.2 (h ++ [.row E e x.1]) with | (vs, h') => (.row h.length :: vs, h')
  | .io :: sh, .pair (.slice E e) b, x, h => match argsV sh b x.2 (h ++ [.row E e x.1]) with | (vs, h') => (.row h.length :: vs, h')
  | _, _, _, h => ([], h)

/-- Which arguments are changed in place. -/
def ioV : List AS → List V → List V
  | .io :: sh, v :: vs => v :: ioV sh vs
  | _ :: sh, _ :: vs => ioV sh vs
  | _, _ => []

/-- A datum with its type. -/
structure Dt where
  t : Ty
  x : t.D

/-! ### Pieces of code told by functions: the states before and behind them -/

/-- A value's form. 'c': the datum is the n-th of what stays; else it is the next of what may change. -/
inductive VT where
  | u
  | kb (b : Bool)
  | nils
  | d (c : Option Nat) (t : Ty)
  | ip (c : Option Nat) (t : Ty)
  | ag (vs : List VT)
  | cp (o off : Nat)
  | ep (c : Option Nat) (o : Nat) (e : Ty) (fs : List Nat)
  | ap (o : Nat)
  | row (o : Nat)
  | sub (c c' : Option Nat) (o : Nat) (e : Ty)
  | fn (f : FuncId) (vs : List VT)
  | ifc (b : Bool)

inductive OT where
  | cells (vs : List VT)
  | row (c : Option Nat) (E : TypeId) (e : Ty)
  | arr (c : Option Nat) (e : Ty)
  | fro (c : Option Nat) (E : TypeId) (e : Ty)
  | dead

/-- m objects that were there before; n slots; of these the slots 'ix' are told. -/
structure Tmpl where
  m : Nat
  n : Nat
  ix : List Nat
  env : List VT
  hp : List OT

/-- What is filled in: what stays is looked up, what may change is taken in order. -/
def take1 (cs : List Dt) (ms : List Dt) : Option Nat → Option (Dt × List Dt)
  | some j => match cs[j]? with
    | some d => some (d, ms)
    | none => none
  | none => match ms with
    | d :: r => some (d, r)
    | [] => none

mutual
def fillVT (cs : List Dt) : VT → List Dt → Option (V × List Dt)
  | .u, ms => some (.undef, ms)
  | .kb b, ms => some (.kb b, ms)
  | .nils, ms => some (.nils, ms)
  | .d c t, ms => match take1 cs ms c with
    | some (x, ms') => if g : x.t = t then some (.dat t (g ▸ x.x), ms') else none
    | none => none
  | .ip c t, ms => match take1 cs ms c with
    | some (x, ms') => if g : x.t = t then some (.ip t (g ▸ x.x), ms') else none
    | none => none
  | .ag vs, ms => match fillVL cs vs ms with
    | some (us, ms') => some (.agg us, ms')
    | none => none
  | .cp o off, ms => some (.cp o off, ms)
  | .ep c o e fs, ms => match take1 cs ms c with
    | some (⟨.int .i64, i⟩, ms') => some (.ep o e i fs, ms')
    | _ => none
  | .ap o, ms => some (.ap o, ms)
  | .row o, ms => some (.row o, ms)
  | .sub c c' o e, ms => match take1 cs ms c with
    | some (⟨.int .i64, lo⟩, ms') => match take1 cs ms' c' with
      | some (⟨.int .i64, hi⟩, ms'') => some (.sub o e lo hi, ms'')
      | _ => none
    | _ => none
  | .fn f vs, ms => match fillVL cs vs ms with
    | some (us, ms') => some (.fn f us, ms')
    | none => none
  | .ifc b, ms => some (.ifc b, ms)
def fillVL (cs : List Dt) : List VT → List Dt → Option (List V × List Dt)
  | [], ms => some ([], ms)
  | v :: r, ms => match fillVT cs v ms with
    | some (x, ms') => match fillVL cs r ms' with
      | some (xs, ms'') => some (x :: xs, ms'')
      | none => none
    | none => none
end

def fillOT (cs : List Dt) : OT → List Dt → Option (Ob × List Dt)
  | .cells vs, ms => match fillVL cs vs ms with
    | some (us, ms') => some (.cells us, ms')
    | none => none
  | .row c E e, ms => match take1 cs ms c with
    | some (x, ms') => if g : x.t = .slice E e then some (.row E e (g ▸ x.x : Ty.D (.slice E e)), ms') else none
    | none => none
  | .arr c e, ms => match take1 cs ms c with
    | some (x, ms') => if g : x.t = .slice 0 e then some (.arr e (g ▸ x.x : Ty.D (.slice 0 e)), ms') else none
    | none => none
  | .fro c E e, ms => match take1 cs ms c with
    | some (x, ms') => if g : x.t = .slice E e then some (.fro E e (g ▸ x.x : Ty.D (.slice E e)), ms') else none
    | none => none
  | .dead, ms => some (.dead, ms)
def fillOL (cs : List Dt) : List OT → List Dt → Option (Hp × List Dt)
  | [], ms => some ([], ms)
  | v :: r, ms => match fillOT cs v ms with
    | some (x, ms') => match fillOL cs r ms' with
      | some (xs, ms'') => some (x :: xs, ms'')
      | none => none
    | none => none

/-- Values laid into a frame. -/
def layE : Env → List Nat → List V → Env
  | e, i :: ix, v :: vs => layE (e.set i v) ix vs
  | e, _, _ => e

/-- A state out of its form and its data. -/
def fillT (T : Tmpl) (cs ms : List Dt) : Option (Env × Hp) :=
  match fillVL cs T.env ms with
  | some (vs, ms') => match fillOL cs T.hp ms' with
    | some (h, []) => some (layE (List.replicate T.n .undef) T.ix vs, h)
    | _ => none
  | none => none

/-- What is read off: (what stays, with its number; what may change). -/
abbrev Got := List (Nat × Dt) × List Dt
def got (c : Option Nat) (d : Dt) : Got :=
  match c with
  | some j => ([(j, d)], [])
  | none => ([], [d])
def Got.app (a b : Got) : Got := (a.1 ++ b.1, a.2 ++ b.2)

mutual
def matVT : VT → V → Option Got
  | .u, _ => some ([], [])
  | .kb b, .kb b' => if b = b' then some ([], []) else none
  | .nils, .nils => some ([], [])
  | .d c t, .dat t' x => if t = t' then some (got c ⟨t', x⟩) else none
  | .d c t, .kb b => if t = .bool then some (got c ⟨.bool, b⟩) else none
  | .ip c t, .ip t' x => if t = t' then some (got c ⟨t', x⟩) else none
  | .ag vs, .agg us => matVL vs us
  | .cp o off, .cp o' off' => if o = o' ∧ off = off' then some ([], []) else none
  | .ep c o e fs, .ep o' e' i fs' => if o = o' ∧ e = e' ∧ fs = fs' then some (got c ⟨.int .i64, i⟩) else none
  | .ap o, .ap o' => if o = o' then some ([], []) else none
  | .row o, .row o' => if o = o' then some ([], []) else none
  | .sub c c' o e, .sub o' e' lo hi => if o = o' ∧ e = e' then some ((got c ⟨.int .i64, lo⟩).app (got c' ⟨.int .i64, hi⟩)) else none
  | .fn f vs, .fn f' us => if f = f' then matVL vs us else none
  | .ifc b, .ifc b' => if b = b' then some ([], []) else none
  | _, _ => none
def matVL : List VT → List V → Option Got
  | [], [] => some ([], [])
  | v :: r, x :: s => match matVT v x with
    | some g => match matVL r s with
      | some g' => some (g.app g')
      | none => none
    | none => none
  | _, _ => none
end
def matOT : OT → Ob → Option Got
  | .cells vs, .cells us => matVL vs us
  | .row c E e, .row E' e' l => if E = E' ∧ e = e' then some (got c ⟨.slice E' e', l⟩) else none
  | .arr c e, .arr e' l => if e = e' then some (got c ⟨.slice 0 e', l⟩) else none
  | .fro c E e, .fro E' e' l => if E = E' ∧ e = e' then some (got c ⟨.slice E' e', l⟩) else none
  | .dead, _ => some ([], [])
  | _, _ => none
def matOL : List OT → Hp → Option Got
  | [], [] => some ([], [])
  | v :: r, x :: s => match matOT v x with
    | some g => match matOL r s with
      | some g' => some (g.app g')
      | none => none
    | none => none
  | _, _ => none

/-- The rows that values lead to, each once, in the order of the first meeting. -/
def addR (o : Nat) (s : List Nat) : List Nat := if s.contains o then s else s ++ [o]
mutual
def rowsV : V → List Nat → List Nat
  | .row o, s => addR o s
  | .sub o _ _ _, s => addR o s
  | .agg vs, s => rowsL vs s
  | .fn _ vs, s => rowsL vs s
  | .tup vs, s => rowsL vs s
  | _, s => s
def rowsL : List V → List Nat → List Nat
  | [], s => s
  | v :: r, s => rowsL r (rowsV v s)
end
def rowsH : Hp → List Nat → List Nat
  | [], s => s
  | .cells vs :: r, s => rowsH r (rowsL vs s)
  | _ :: r, s => rowsH r s

def posOf (o : Nat) : List Nat → Nat → Option Nat
  | [], _ => none
  | x :: r, n => if x = o then some n else posOf o r (n + 1)

mutual
/-- New names for rows; what leads to an object that goes is forgotten. -/
def mvV (m : Nat) (s : List Nat) : V → V
  | .row o => match posOf o s m with | some n => .row n | none => .undef
  | .sub o e a b => match posOf o s m with | some n => .sub n e a b | none => .undef
  | .cp o i => if o < m then .cp o i else .undef
  | .ap o => if o < m then .ap o else .undef
  | .ep o e i fs => match posOf o s m with | some n => .ep n e i fs | none => if o < m then .ep o e i fs else .undef
  | .agg vs => .agg (mvL m s vs)
  | .fn f vs => .fn f (mvL m s vs)
  | .tup vs => .tup (mvL m s vs)
  | v => v
def mvL (m : Nat) (s : List Nat) : List V → List V
  | [] => []
  | v :: r => mvV m s v :: mvL m s r
end
def mvH (m : Nat) (s : List Nat) : Nat → Hp → Hp
  | _, [] => []
  | i, ob :: r => (if s.contains i then .dead else match ob with | .cells vs => .cells (mvL m s vs) | x => x) :: mvH m s (i + 1) r

mutual
/-- Where a row of one's own is expected a nil slice becomes one. -/
def fixV (hp : List OT) : VT → V → Hp → V × Hp
  | .row o, .nils, h => match hp[o]? with
    | some (.row _ E e) => (.row h.length, h ++ [.row E e []])
    | _ => (.nils, h)
  | .ag vs, .agg us, h => match fixL hp vs us h with
    | (us', h') => (.agg us', h')
  | _, v, h => (v, h)
def fixL (hp : List OT) : List VT → List V → Hp → List V × Hp
  | t :: ts, v :: vs, h => match fixV hp t v h with
    | (v', h') => match fixL hp ts vs h' with
      | (vs', h'') => (v' :: vs', h'')
  | _, vs, h => (vs, h)
end
def fixH (hp : List OT) : Nat → List OT → Hp → Hp
  | i, .cells ts :: r, h => match h[i]? with
    | some (.cells vs) => match fixL hp ts vs h with
      | (vs', h') => fixH hp (i + 1) r (h'.set i (.cells vs'))
    | _ => fixH hp (i + 1) r h
  | i, _ :: r, h => fixH hp (i + 1) r h
  | _, [], h => h

/-- A row of a heap. -/
def rowAt (h : Hp) (o : Nat) : Ob := match h[o]? with
  | some (.cells _) => .dead
  | some x => x
  | none => .dead

/-- The slots that are told; of the heap what was there (m objects), behind it the rows that are still led to. -/
def norm (T : Tmpl) (e : Env) (h : Hp) : Env × Hp :=
  match fixL T.hp T.env (T.ix.map fun i => e.getD i .undef) h with
  | (e1, h1) =>
    let h2 := fixH T.hp 0 (T.hp.take T.m) h1
    let base := h2.take T.m
    let s := rowsH base (rowsL e1 [])
    (mvL T.m s e1, mvH T.m s 0 base ++ s.map fun o => rowAt h2 o)

/-- A state read by a form. -/
def matT (T : Tmpl) (e : Env) (h : Hp) : Option Got :=
  if T.n = e.length ∧ T.m ≤ h.length then
  match norm T e h with
  | (e', h') => match matVL T.env e' with
    | some g => match matOL T.hp h' with
      | some g' => some (g.app g')
      | none => none
    | none => none
  else none

/-- A chain's parts as data with their types, and back. -/
def unpack : (t : Ty) → t.D → List Dt
  | .pair a b, x => ⟨a, x.1⟩ :: unpack b x.2
  | _, _ => []
def pack : (t : Ty) → List Dt → Option t.D
  | .unit, [] => some ()
  | .pair a b, d :: r => if g : d.t = a then match pack b r with
    | some y => some (g ▸ d.x, y)
    | none => none
    else none
  | _, _ => none

/-- What stays, in its order. -/
def consts : List (Nat × Dt) → Nat → Option (List Dt)
  | [], _ => some []
  | (j, d) :: r, n => if j = n then match consts r (n + 1) with
    | some l => some (d :: l)
    | none => none
    else none

/-- A piece of code told by a function. -/
structure Frag where
  i : Tmpl
  o : Tmpl
  r : Tmpl
  C : Ty
  M : Ty
  O : Ty
  R : Ty
  f : C.D → M.D → Option (O.D ⊕ R.D)

/-- What a call's place is told: the callee's contract. -/
inductive CE where
  | sig (f : FuncId) (sh : List AS) (s : Sig)

/-- The tables of a function. -/
structure Tabs where
  tt : TypeId → TI
  ct : Nat → Nat → Nat → Option CE
  fr : Nat → Nat → Option Frag

def minV (op : Int → Int → Int) : List V → Option V
  | [.dat (.int k) a, .dat (.int k') b] => if k = k' then some (.dat (.int k) (op a b)) else none
  | _ => none

def put (e : Env) (d : Option Tmp) (v : V) : Env :=
  match d with
  | some d => e.set d v
  | none => e

/-- What an operation yielded, as a guard asks it. -/
def gslot (ops : List Oper) (j : Nat) : Option Tmp := (ops[j]?).bind (·.dst)

section
variable (tb : Tabs)

/-- An operation that makes no block and writes nothing. -/
def opQ (o : Op) (e : Env) (h : Hp) : Tr V :=
  let g := getV e
  match o with
  | .move x | .assign x => .ret (g x)
  | .pick c a b => match g c with
    | .kb t => .ret (if t then g a else g b)
    | .dat .bool t => match boolV (g a), boolV (g b) with
      | some x, some y => .ret (.dat .bool (cond t x y))
      | _, _ => .ite t (.ret (g a)) (.ret (g b))
    | _ => .no
  | .load t a => loadV tb.tt t (g a) h
  | .nilCheck x => match g x with
    | .cp o i => .ret (.cp o i)
    | .ep o t i fs => .ret (.ep o t i fs)
    | .ap o => .ret (.ap o)
    | .ip t x => .ret (.ip t x)
    | .fn f c => .ret (.fn f c)
    | _ => .no
  | .binOp op t x y _ => binV tb.tt op t (g x) (g y) h
  | .unOp .not _ x => match g x with
    | .dat .bool b => .ret (.dat .bool (!b))
    | .kb b => .ret (.kb (!b))
    | _ => .no
  | .unOp .neg _ x => match g x with
    | .dat (.int j) n => .ret (.dat (.int j) (j.wrap (0 - n)))
    | _ => .no
  | .unOp .xor _ x => match g x with
    | .dat (.int j) n => match arith .xor j (if j.signed then -1 else j.max) n with
      | some m => .ret (.dat (.int j) m)
      | none => .no
    | _ => .no
  | .convert src dst x => match tb.tt src, tb.tt dst with
    | .d (.int _), .d (.int j) => match g x with
      | .dat (.int _) n => .ret (.dat (.int j) (j.wrap n))
      | _ => .no
    | .d .str, .d .str => match g x with
      | .dat .str s => .ret (.dat .str s)
      | _ => .no
    | .d (.slice _ (.int .u8)), .d .str => match rowOf h (.int .u8) (g x) with
      | some l => .ret (.dat .str (l.map fun n : Int => UInt8.ofNat n.toNat))
      | none => .no
    | _, _ => .no
  | .makeInterface t _ => match tb.tt t with
    | .d _ => .ret (.ifc false)
    | _ => .no
  | .makeFunc (.func f) first caps => if first.size = 0 then .ret (.fn f (caps.toList.map g)) else .no
  | .slice t x lo hi none => match tb.tt t with
    | .d .str => match g x with
      | .dat .str s => sliceS s (lo.map g) (hi.map g)
      | _ => .no
    | .d (.slice _ el) => sliceV el (g x) (lo.map g) (hi.map g) h
    | _ => .no
  | .fieldAddr s x f => match tb.tt s with
    | .d u => match fldT u f with
      | some _ => match g x with
        | .cp o off => .ret (.cp o (off + fldOff u f))
        | .ep o e i fs => if fldTs e fs = some u then .ret (.ep o e i (fs ++ [f])) else .no
        | .ip t y => if t = u then match getF t y [f] with
          | some ⟨w, z⟩ => .ret (.ip w z)
          | none => .no
          else .no
        | _ => .no
      | none => .no
    | _ => .no
  | .field s x f => match tb.tt s with
    | .d u => match fldT u f with
      | some w =>
        if (cellsOf (g x)).length = u.size ∧ aggV (g x) = true then
          if w.isAgg then .ret (.agg (((cellsOf (g x)).drop (fldOff u f)).take w.size)) else .ret ((cellsOf (g x)).getD (fldOff u f) .undef)
        else .no
      | none => .no
    | _ => .no
  | .indexAddr t x ix => match tb.tt t, g ix with
    | .d (.slice _ el), .dat (.int _) i => match g x with
      | .dat (.slice _ el') l => if el' = el then .bind (idx l i) fun y => .ret (.ip el' y) else .no
      | .row o => match h[o]? with
        | some (.row _ el' l) | some (.fro _ el' l) => if el' = el then .bind (idx l i) fun _ => .ret (.ep o el' i []) else .no
        | _ => .no
      | .sub o u lo hi => match h[o]? with
        | some (.row _ el' l) | some (.fro _ el' l) => if u = el' ∧ el' = el then .ite (decide (0 ≤ i) && decide (i < hi - lo)) (.bind (idx l (lo + i)) fun _ => .ret (.ep o el' (lo + i) [])) .no else .no
        | _ => .no
      | _ => .no
    | .arr n _ el, .dat (.int _) i => match g x with
      | .ap o => match h[o]? with
        | some (.arr el' l) => if el' = el then .ite (decide (i < n)) (.bind (idx l i) fun _ => .ret (.ep o el' i [])) .no else .no
        | _ => .no
      | _ => .no
    | _, _ => .no
  | .index t x ix => match tb.tt t, g x, g ix with
    | .d .str, .dat .str s, .dat (.int _) i => .bind (idx s i) fun c => .ret (.dat (.int .u8) (c.toNat : Int))
    | _, _, _ => .no
  | .extract x i => match g x with
    | .tup vs => match vs[i]? with
      | some v => .ret v
      | none => .no
    | _ => .no
  | .call { callee := .builtin .len, args, argTypes } => match (argTypes[0]?).map tb.tt with
    | some (.d .str) => match g (args.getD 0 (.const undef)) with
      | .dat .str s => .ret (.dat (.int .i64) (s.length : Int))
      | _ => .no
    | some (.d (.slice _ _)) => match g (args.getD 0 (.const undef)) with
      | .dat .str _ => .no
      | v => match lenV h v with
        | some n => .ret (.dat (.int .i64) n)
        | none => .no
    | _ => .no
  | .call { callee := .builtin .cap, args, argTypes } => match (argTypes[0]?).map tb.tt, g (args.getD 0 (.const undef)) with
    | some (.d (.slice _ _)), .nils => .ret (.dat (.int .i64) (0 : Int))
    | _, _ => .no
  | .call { callee := .builtin .min, args, .. } => match minV (fun a b => if b < a then b else a) (args.toList.map g) with
    | some v => .ret v
    | none => .no
  | .call { callee := .builtin .max, args, .. } => match minV (fun a b => if a < b then b else a) (args.toList.map g) with
    | some v => .ret v
    | none => .no
  | _ => .no

/-- Operations that make new objects and touch no others; what is new. -/
def opN (o : Op) (e : Env) (h : Hp) : Tr (V × Hp) :=
  let g := getV e
  match o with
  | .alloc t => match tb.tt t with
    | .arr n _ el => .ret (.ap h.length, [.arr el (List.replicate n el.zero)])
    | .d u => .ret (.cp h.length 0, [.cells (zeroL u)])
    | _ => .no
  | .box t x => match tb.tt t with
    | .d u => if (cellsOf (g x)).length = u.size ∧ okV (g x) = true then .ret (.cp h.length 0, [.cells (cellsOf (g x))]) else .no
    | .one => if (cellsOf (g x)).length = 1 ∧ okV (g x) = true then .ret (.cp h.length 0, [.cells (cellsOf (g x))]) else .no
    | _ => .no
  | .build t ps => match tb.tt t with
    | .d u => if u.isAgg then match fillV u (zeroL u) (ps.toList.map fun p => (p.1, g p.2)) with
      | some vs => .ret (.agg vs, [])
      | none => .no
      else .no
    | .arr n _ el => if ps.size = 0 then .ret (.agg (List.replicate n (zeroL el)).flatten, []) else .no
    | _ => .no
  | .buildSlice t n ps => match tb.tt t with
    | .d (.slice E el) => if n = ps.size ∧ n ≤ 4096 ∧ el.size ≤ 4096 ∧ (el.flat || noRows (ps.toList.map fun p => g p.2)) then match buildL false el 0 (ps.toList.map fun p => (p.1, g p.2)) h with
      | some (l, _) => .ret (.row h.length, [.row E el l])
      | none => .no
      else .no
    | _ => .no
  | .makeSlice t l c => match tb.tt t, g l, g c with
    | .d (.slice E el), .dat (.int _) n, .dat (.int _) m =>
      .ite (decide (n = m) && (inR 0 n maxRow)) (.ret (.row h.length, [.row E el (List.replicate n.toNat el.zero)])) .no
    | _, _, _ => .no
  | _ => (opQ tb o e h).map fun v => (v, [])

/-- Operations that write. -/
def opW (o : Op) (e : Env) (h : Hp) : Tr (V × Hp) :=
  let g := getV e
  match o with
  | .buildSlice t n ps => match tb.tt t with
    | .d (.slice E el) => if n = ps.size ∧ n ≤ 4096 ∧ el.size ≤ 4096 then match buildL true el 0 (ps.toList.map fun p => (p.1, g p.2)) h with
      | some (l, h') => .ret (.row h'.length, h' ++ [.row E el l])
      | none => .no
      else .no
    | _ => .no
  | .store t a x => (storeV tb.tt t (g a) (g x) h).map fun h' => (.undef, h')
  | .call { callee := .builtin .append, args, argTypes } => match argTypes.toList, args.toList with
    | [t, tx], [s, x] => match tb.tt t with
      | .d (.slice E el) => if el.size ≠ 0 ∧ srcB (tb.tt tx) (g x) = true then appendV E el (g s) (g x) h else .no
      | _ => .no
    | _, _ => .no
  | .call { callee := .builtin .clear, args, argTypes } => match (argTypes[0]?).map tb.tt, g (args.getD 0 (.const undef)) with
    | some (.d (.slice E' e')), .sub o u lo hi => match h[o]? with
      | some (.row E e l) => if u ≠ e ∨ e' ≠ e ∨ E' ≠ E then .no else .ite (inR 0 lo hi && decide (hi ≤ l.length)) (.ret (.tup [], h.set o (.row E e (l.take lo.toNat ++ List.replicate (hi.toNat - lo.toNat) e.zero ++ l.drop hi.toNat)))) .no
      | _ => .no
    | _, _ => .no
  | _ => .no

/-- Is it one of those that write? -/
def writesB (o : Op) (e : Env) : Bool :=
  match o with
  | .store .. => true
  | .call { callee := .builtin .append, .. } => true
  | .call { callee := .builtin .clear, .. } => true
  | .buildSlice t _ ps => match tb.tt t with
    | .d (.slice _ el) => !(el.flat || noRows (ps.toList.map fun p => getV e p.2))
    | _ => false
  | _ => false

/-- Every slice of it is a row of its own, whose elements have none. -/
def okOwn : Ty → List Bool → Bool × List Bool
  | .unit, m => (true, m)
  | .pair a b, m => match okOwn a m with
    | (x, m') => match okOwn b m' with
      | (y, m'') => (x && y, m'')
  | .slice _ e, true :: m => (e.flat, m)
  | .slice _ _, m => (false, m.tail)
  | _, m => (true, m.tail)

/-- What is handed over to be read has no slices. -/
def dFlat : List AS → Ty → Bool
  | .d :: sh, .pair a b => a.flat && dFlat sh b
  | .ip :: sh, .pair a b => a.flat && dFlat sh b
  | .fn _ 0 :: sh, t => dFlat sh t
  | .fn _ 1 :: sh, .pair a b => a.flat && dFlat sh b
  | .fn _ 2 :: sh, .pair a (.pair a' b) => a.flat && a'.flat && dFlat sh b
  | .nil :: sh, t => dFlat sh t
  | .own :: sh, .pair _ b => dFlat sh b
  | .io :: sh, .pair _ b => dFlat sh b
  | _, _ => true

/-- Only handed over to be read. -/
def readsB : List AS → Bool
  | [] => true
  | .own :: _ | .io :: _ => false
  | _ :: r => readsB r

/-- A call by a contract that touches no object. -/
def callN (ce : Option CE) (f : V) (args : List V) (h : Hp) : Tr (V × Hp) :=
  match f with
  | .fn n caps => match ce with
    | some (.sig m sh s) => if n = m ∧ readsB sh ∧ !s.io ∧ (!s.fz || noRows (args ++ caps)) ∧ (s.fz || (okOwn s.r s.own).1) then
      match argsD false (!s.fz) sh s.p (args ++ caps) h with
      | some (x, _, _) => .bind (s.f x) fun r =>
        match inject s.r r s.own h.length with
        | (vs, _, h'') => .ret (resV s.r s.multi vs, h'')
      | none => .no
      else .no
    | _ => .no
  | _ => .no

/-- A call that may change objects. -/
def callW (ce : Option CE) (f : V) (args : List V) (h : Hp) : Tr (V × Hp) :=
  match f with
  | .fn n caps => match ce with
    | some (.sig m sh s) => if n = m ∧ (s.fz || (dFlat sh s.p && (okOwn s.r s.own).1)) ∧ (!s.io || (!s.fz && (okOwn s.r [true]).1)) then
      match argsD s.fz false sh s.p (args ++ caps) h with
      | some (x, h', io) => .bind (s.f x) fun r =>
        if s.io then match setIO s.r r io h' with
          | some h'' => .ret (.tup [], h'')
          | none => .no
        else match inject s.r r s.own h'.length with
        | (vs, _, h'') => .ret (resV s.r s.multi vs, h' ++ h'')
      | none => .no
      else .no
    | _ => .no
  | _ => .no

def callIsN (ce : Option CE) (args : List V) : Bool :=
  match ce with
  | some (.sig _ sh s) => readsB sh && !s.io && (!s.fz || noRows args)
  | _ => false

/-- An operation that touches no object: in a region whose order is open these alone may stand. -/
def opD (fid rid i : Nat) (o : Op) (e : Env) (h : Hp) : Tr (V × Hp) :=
  match o with
  | .call { callee := .value f, args, .. } => callN (tb.ct fid rid i) (getV e f) (args.toList.map (getV e)) h
  | o => if writesB tb o e then .no else opN tb o e h

def opV (fid rid i : Nat) (o : Op) (e : Env) (h : Hp) : Tr (V × Hp) :=
  match o with
  | .call { callee := .value f, args, .. } =>
    if callIsN (tb.ct fid rid i) (args.toList.map (getV e)) then (callN (tb.ct fid rid i) (getV e f) (args.toList.map (getV e)) h).map fun x => (x.1, h ++ x.2)
    else callW (tb.ct fid rid i) (getV e f) (args.toList.map (getV e)) h
  | o => if writesB tb o e then opW tb o e h else (opN tb o e h).map fun x => (x.1, h ++ x.2)

def opsV (fid rid : Nat) (all : List Oper) : Nat → List Oper → Env → Hp → Tr (Env × Hp)
  | _, [], e, h => .ret (e, h)
  | i, o :: r, e, h =>
    match o.guard with
    | none => (opV tb fid rid i o.op e h).bnd fun x => opsV fid rid all (i + 1) r (put e o.dst x.1) x.2
    | some (j, want) => match gslot all j with
      | some t => match e.getD t .undef with
        | .kb b => if b == want then (opV tb fid rid i o.op e h).bnd fun x => opsV fid rid all (i + 1) r (put e o.dst x.1) x.2
          else opsV fid rid all (i + 1) r (put e o.dst .skp) h
        | .dat .bool b =>
          let yes (b' : Bool) := (opV tb fid rid i o.op (e.set t (.kb b')) h).bnd fun x => opsV fid rid all (i + 1) r (put (e.set t (.kb b')) o.dst x.1) x.2
          let no (b' : Bool) := opsV fid rid all (i + 1) r (put (e.set t (.kb b')) o.dst .skp) h
          match want with
          | true => .ite b (yes true) (no false)
          | false => .ite b (no true) (yes false)
        | .skp => opsV fid rid all (i + 1) r (put e o.dst .skp) h
        | _ => .no
      | none => .no

/-! ### A region whose order is open -/

/-- The operations that come before one in every order, as bits; for each in turn. -/
def waits (bs : List Nat) (o : Oper) : Nat :=
  o.after.toList.foldl (fun s x => if Region.binds .any x then s ||| 2 ^ x.on ||| bs.getD x.on 0 else s) 0
def waitsL : List Nat → List Oper → List Nat
  | bs, [] => bs
  | bs, o :: r => waitsL (bs ++ [waits bs o]) r

def looks (all : List Oper) (o : Oper) : List Nat :=
  (o.op.operands.toList.filterMap fun x => match x with | .tmp t => some t | _ => none) ++ match o.guard with
    | some (j, _) => (gslot all j).toList
    | none => []

/-- Two operations of which neither names what the other yields. -/
def apartB (all : List Oper) (x y : Oper) : Bool :=
  match x.dst, y.dst with
  | some d, some d' => d != d' && !(looks all y).contains d && !(looks all x).contains d'
  | some d, none => !(looks all y).contains d
  | none, some d' => !(looks all x).contains d'
  | none, none => true

def ndst (x y : Oper) : Bool :=
  match x.dst, y.dst with
  | some d, some d' => d != d'
  | _, _ => true

/-- Each pair is in order, or apart. -/
def orderB1 (all : List Oper) (w : Nat) (y : Oper) : Nat → List Oper → Bool
  | _, [] => true
  | i, x :: r => (w.testBit i || apartB all x y) && ndst x y && orderB1 all w y (i + 1) r
def orderB (all : List Oper) : List Nat → List Oper → List Oper → Bool
  | _, _, [] => true
  | bs, before, o :: r =>
    o.after.toList.all (fun x => !Region.binds .any x || decide (x.on < before.length)) &&
    orderB1 all (waits bs o) o 0 before && orderB all (bs ++ [waits bs o]) (before ++ [o]) r

/-- The objects that operation i may know of: those from before, and what the operations ahead of it made. -/
def maskH (m : Nat) (ow : List Nat) (w : Nat) (h : Hp) : Hp :=
  h.take m ++ List.zipWith (fun ob j => if w.testBit j then ob else .dead) (h.drop m) ow

def drawV (fid rid : Nat) (all : List Oper) (ws : List Nat) (m : Nat) : Nat → List Oper → Env → Hp → List Nat → Tr (Env × Hp)
  | _, [], e, h, _ => .ret (e, h)
  | i, o :: r, e, h, ow =>
    let go (e : Env) : Tr (Env × Hp) := (opD tb fid rid i o.op e (maskH m ow (ws.getD i 0) h)).bnd fun x => drawV fid rid all ws m (i + 1) r (put e o.dst x.1) (h ++ x.2) (ow ++ List.replicate x.2.length i)
    match o.guard with
    | none => go e
    | some (j, want) => match gslot all j with
      | some t => match e.getD t .undef with
        | .kb b => if b == want then go e else drawV fid rid all ws m (i + 1) r (put e o.dst .skp) h ow
        | .dat .bool b =>
          let yes (b' : Bool) := go (e.set t (.kb b'))
          let no (b' : Bool) := drawV fid rid all ws m (i + 1) r (put (e.set t (.kb b')) o.dst .skp) h ow
          match want with
          | true => .ite b (yes true) (no false)
          | false => .ite b (no true) (yes false)
        | .skp => drawV fid rid all ws m (i + 1) r (put e o.dst .skp) h ow
        | _ => .no
      | none => .no

/-- A piece of code that is told by a function. -/
def useFrag (fr : Frag) (e : Env) (h : Hp) : Tr (Ex × Env × Hp) :=
  match matT fr.i e h with
  | some (cl, ml) => match consts cl 0 with
    | some cs => match pack fr.C cs, pack fr.M ml with
      | some c, some m => .bind (fr.f c m) fun p => .sum p
          (fun o => match fillT fr.o cs (unpack fr.O o) with
            | some (e', h') => .ret (.normal, e', h')
            | none => .no)
          (fun o => match fillT fr.r cs (unpack fr.R o) with
            | some (e', h') => .ret (.ret, e', h')
            | none => .no)
      | _, _ => .no
    | none => .no
  | none => .no

/-- Code. -/
def ex (fid : Nat) : Code → Env → Hp → Tr (Ex × Env × Hp)
  | .skip, e, h => .ret (.normal, e, h)
  | .label _, e, h => .ret (.normal, e, h)
  | .region rid ops draw, e, h =>
    if draw then
      if orderB ops.toList [] [] ops.toList then (drawV tb fid rid ops.toList (waitsL [] ops.toList) h.length 0 ops.toList e h []).map fun x => (.normal, x.1, x.2)
      else .no
    else (opsV tb fid rid ops.toList 0 ops.toList e h).map fun x => (.normal, x.1, x.2)
  | .seq a b, e, h => (ex fid a e h).bnd fun x => match x.1 with
    | .normal => ex fid b x.2.1 x.2.2
    | _ => .ret x
  | .cond c a b, e, h => match c with
    | .const (.bool x) => if x then ex fid a e h else ex fid b e h
    | .tmp t => match e.getD t .undef with
      | .kb x => if x then ex fid a e h else ex fid b e h
      | .dat .bool x => .ite x (ex fid a (e.set t (.kb true)) h) (ex fid b (e.set t (.kb false)) h)
      | _ => .no
    | _ => .no
  | .block id a, e, h => match tb.fr fid (2 * id) with
    | some fr => useFrag fr e h
    | none => (ex fid a e h).bnd fun x => match x.1 with
      | .exit j => if j = id then .ret (.normal, x.2) else .ret x
      | _ => .ret x
  | .exit j, e, h => .ret (.exit j, e, h)
  | .ret, e, h => .ret (.ret, e, h)
  | _, _, _ => .no

def resOf (e : Env) (h : Hp) : List ResultVar → Option (List V)
  | [] => some []
  | .tmp t :: r => match resOf e h r with
    | some l => some (e.getD t .undef :: l)
    | none => none
  | .cell a T :: r => match e.getD a .undef, resOf e h r with
    | .cp o off, some l => match h[o]?, tb.tt T with
      | some (.cells vs), .d u => if off + u.size ≤ vs.length then (if u.isAgg then some (.agg ((vs.drop off).take u.size) :: l) else some (vs.getD off .undef :: l)) else none
      | some (.cells vs), .one => if off < vs.length then some (vs.getD off .undef :: l) else none
      | _, _ => none
    | _, _ => none

/-- A function's body, walked into. -/
def bodyV (fid : Nat) (fn : Func) (args : List V) (h : Hp) : Tr (V × Hp) :=
  match fn.body with
  | some c => if args.length = fn.params.size + fn.nfree then
    (ex tb fid c (args ++ List.replicate (fn.ntmps - args.length) .undef) h).bnd fun x =>
    match x.1 with
    | .exit _ => .no
    | _ => match resOf tb x.2.1 x.2.2 fn.results.toList with
      | some [v] => .ret (v, x.2.2)
      | some vs => .ret (.tup vs, x.2.2)
      | none => .no
    else .no
  | none => .no

end

/-- A result as a datum; rows that are told as the function's own must be so. -/
def outD : (t : Ty) → List Bool → List V → Hp → Option (t.D × List Bool × List V × Hp)
  | .unit, m, vs, h => some ((), m, vs, h)
  | .pair a b, m, vs, h => match outD a m vs h with
    | some (x, m', vs', h') => match outD b m' vs' h' with
      | some (y, r) => some ((x, y), r)
      | none => none
    | none => none
  | .slice E e, m, v :: vs, h => match m with
    | true :: m => match v with
      | .nils => some ([], m, vs, h)
      | .row o => match h[o]? with
        | some (.row E' t l) => if g : t = e then (if E' = E then some (g ▸ l, m, vs, h.set o .dead) else none) else none
        | _ => none
      | .sub o u lo hi => match h[o]? with
        | some (.row E' t l) => if g : t = e then (if lo = 0 ∧ u = t ∧ E' = E then some (g ▸ (l.take hi.toNat), m, vs, h.set o .dead) else none) else none
        | _ => none
      | _ => none
    | m => match rowOf h e v with
      | some l => some (l, m.tail, vs, freeze h v)
      | none => none
  | .int k, m, .dat (.int k') n :: vs, h => if k = k' then some (n, m.tail, vs, h) else none
  | .bool, m, .dat .bool b :: vs, h => some (b, m.tail, vs, h)
  | .bool, m, .kb b :: vs, h => some (b, m.tail, vs, h)
  | .str, m, .dat .str s :: vs, h => some (s, m.tail, vs, h)
  | _, _, _, _ => none

def cellsL : List V → List V
  | [] => []
  | v :: r => cellsOf v ++ cellsL r

/-- Several results, each as a part of the chain. -/
def fitsV : Ty → List V → Bool
  | .unit, [] => true
  | .pair a b, v :: vs => okV v && (aggV v == a.isAgg) && decide ((cellsOf v).length = a.size) && fitsV b vs
  | _, _ => false

/-- The cells of what a function answers. -/
def resCells (multi : Bool) (r : Ty) (v : V) : Option (List V) :=
  if multi then match v with
    | .tup vs => if fitsV r vs then some (cellsL vs) else none
    | _ => none
  else if okV v && (aggV v == r.isAgg) then some (cellsOf v) else none

/-- A function by itself: its arguments are data, its result a datum. -/
def topV (tb : Tabs) (fid : Nat) (fn : Func) (sh : List AS) (p r : Ty) (multi io : Bool) (own : List Bool) (x : p.D) : Tr r.D :=
  match argsV sh p x [] with
  | (vs, h) => (bodyV tb fid fn vs h).bnd fun y =>
    match (if io then some (ioV sh vs) else resCells multi r y.1) with
    | some vs => match outD r own vs y.2 with
      | some (z, _, [], _) => .ret z
      | _ => .no
    | none => .no

/-- A round's end, as its loop sees it. -/
inductive Leaf (M O R : Type) where
  | more (m : M)
  | out (o : O)
  | ret (r : R)

/-- A round's end read by the forms. -/
def leafOf (id : Nat) (i o r : Tmpl) (M O R : Ty) (x : Ex × Env × Hp) : Option (List (Nat × Dt) × Leaf M.D O.D R.D) :=
  match x.1 with
  | .normal => match matT i x.2.1 x.2.2 with
    | some (c, l) => match pack M l with
      | some m => some (c, .more m)
      | none => none
    | none => none
  | .exit j => if j = id then match matT o x.2.1 x.2.2 with
    | some (c, l) => match pack O l with
      | some m => some (c, .out m)
      | none => none
    | none => none
    else none
  | .ret => match matT r x.2.1 x.2.2 with
    | some (c, l) => match pack R l with
      | some m => some (c, .ret m)
      | none => none
    | none => none

/-- A loop by its rounds. -/
def iterT {M O R : Type} (B : M → Tr (Leaf M O R)) : Nat → M → Option (O ⊕ R)
  | 0, _ => none
  | n + 1, m => match (B m).run with
    | some (.more m') => iterT B n m'
    | some (.out o) => some (.inl o)
    | some (.ret r) => some (.inr r)
    | none => none

/-- The loop at a block. -/
def loopAt (id : Nat) : Code → Option Code
  | .block j (.loop a) => if j = id then some a else loopAt id a
  | .block _ a => loopAt id a
  | .seq a b => match loopAt id a with
    | some x => some x
    | none => loopAt id b
  | .cond _ a b => match loopAt id a with
    | some x => some x
    | none => loopAt id b
  | .loop a => loopAt id a
  | .scope a => loopAt id a
  | _ => none

/-- A round of a loop, from a state of its form. -/
def roundV (tb : Tabs) (fid : Nat) (fn : Func) (id : Nat) (i o r : Tmpl) (M O R : Ty) (cs : List Dt) (m : M.D) : Tr (Option (List (Nat × Dt) × Leaf M.D O.D R.D)) :=
  match fn.body with
  | some b => match loopAt id b with
    | some a => match fillT i cs (unpack M m) with
      | some (e, h) => (ex tb fid a e h).map (leafOf id i o r M O R)
      | none => .no
    | none => .no
  | none => .no

/-- What stays, as a form that has just these of it reads it. -/
def stays (cs : List Dt) : List Nat → List (Nat × Dt)
  | [] => []
  | j :: r => match cs[j]? with
    | some d => (j, d) :: stays cs r
    | none => stays cs r

/-- A table's row. -/
def look2 {α : Type} (a b : Nat) : List (Nat × Nat × α) → Option α
  | [] => none
  | (x, y, v) :: r => if a = x then (if b = y then some v else look2 a b r) else look2 a b r
def look3 {α : Type} (a b c : Nat) : List (Nat × Nat × Nat × α) → Option α
  | [] => none
  | (x, y, z, v) :: r => if a = x then (if b = y then (if c = z then some v else look3 a b c r) else look3 a b c r) else look3 a b c r

/-- A round's end with what stays beside it. -/
def withC {M O R : Type} (i o r : List (Nat × Dt)) : Leaf M O R → Option (List (Nat × Dt) × Leaf M O R)
  | .more m => some (i, .more m)
  | .out m => some (o, .out m)
  | .ret m => some (r, .ret m)

/-! Orders of the program's data. -/
def cmpZ (a b : Int) : Int := if a < b then -1 else if b < a then 1 else 0
def cmpOr (a b : Int) : Int := if a = 0 then b else a
def cmpTxt (a b : List UInt8) : Int := if a = b then 0 else if Go.Op.bytesLess a b then -1 else 1
def cmpLab (a b : Int × Int × Unit) : Int := cmpOr (cmpZ a.1 b.1) (cmpZ a.2.1 b.2.1)
def labLe (a b : Int × Int × Unit) : Bool := decide (cmpLab a b ≤ 0)

end X
end Go.Proofs.YtjnfmjeiceiciaaGreat

/-
How abstract data and values lie in memory; what is kept while memory grows.
-/
namespace Go.Proofs.YtjnfmjeiceiciaaGreat
namespace X
open Go
set_option linter.unusedVariables false

/-- A set of blocks. -/
abbrev BSet := Nat → Prop

/-- One value out of a datum's cells. -/
def mkV (t : Ty) (cs : List Value) : Value := if t.isAgg then .agg cs.toArray else cs.headD Go.undef

/-- Elements one behind the other. -/
def RepL {α : Type} (R : α → List Value → Prop) : List α → List Value → Prop
  | [], xs => xs = []
  | x :: l, xs => ∃ c1 c2, xs = c1 ++ c2 ∧ R x c1 ∧ RepL R l c2

/-- A datum in cells. What slices lead to lies in blocks of S. -/
def Rep (S : BSet) (w : World) : (t : Ty) → t.D → List Value → Prop
  | .int k, n, cs => cs = [.int k n]
  | .bool, b, cs => cs = [.bool b]
  | .str, s, cs => cs = [.string ⟨s.toArray⟩]
  | .unit, _, cs => cs = []
  | .pair a b, x, cs => ∃ c1 c2, cs = c1 ++ c2 ∧ Rep S w a x.1 c1 ∧ Rep S w b x.2 c2
  | .slice _ e, l, cs => ∃ a c, cs = [.slice a l.length c] ∧ l.length ≤ c ∧
      (l = [] ∨ ∃ ad xs, a = some ad ∧ S ad.block ∧ RepL (Rep S w e) l xs ∧ ∀ j u, xs[j]? = some u → w.cell? (ad.add j) = some u)

theorem RepL.mono {α : Type} {R R' : α → List Value → Prop} (h : ∀ x c, R x c → R' x c) : ∀ (l : List α) (xs : List Value), RepL R l xs → RepL R' l xs
  | [], _, hl => hl
  | x :: l, xs, ⟨c1, c2, e, h1, h2⟩ => ⟨c1, c2, e, h x c1 h1, RepL.mono h l c2 h2⟩

theorem RepL.len {α : Type} {R : α → List Value → Prop} {k : Nat} (h : ∀ x c, R x c → c.length = k) : ∀ (l : List α) (xs : List Value), RepL R l xs → xs.length = l.length * k
  | [], _, hl => by simp only [RepL] at hl; simp [hl]
  | x :: l, xs, ⟨c1, c2, e, h1, h2⟩ => by
    have := RepL.len h l c2 h2
    rw [e, List.length_append, h x c1 h1, this, List.length_cons, Nat.add_mul]; omega

theorem Rep.len {S : BSet} {w : World} : ∀ (t : Ty) (x : t.D) (cs : List Value), Rep S w t x cs → cs.length = t.size
  | .int k, n, cs, h => by simp only [Rep] at h; simp [h, Ty.size]
  | .bool, n, cs, h => by simp only [Rep] at h; simp [h, Ty.size]
  | .str, n, cs, h => by simp only [Rep] at h; simp [h, Ty.size]
  | .unit, n, cs, h => by simp only [Rep] at h; simp [h, Ty.size]
  | .slice _ e, l, cs, h => by
    simp only [Rep] at h
    obtain ⟨a, c, rfl, _⟩ := h
    simp [Ty.size]
  | .pair a b, x, cs, h => by
    simp only [Rep] at h
    obtain ⟨c1, c2, rfl, h1, h2⟩ := h
    simp [Ty.size, Rep.len a _ _ h1, Rep.len b _ _ h2]

theorem Rep.one {S : BSet} {w : World} : ∀ (t : Ty) (x : t.D) (cs : List Value), Rep S w t x cs → ∀ v ∈ cs, v.oneCell' = true
  | .int k, n, cs, h, v, hv => by simp only [Rep] at h; simp [h] at hv; simp [hv, Value.oneCell']
  | .bool, n, cs, h, v, hv => by simp only [Rep] at h; simp [h] at hv; simp [hv, Value.oneCell']
  | .str, n, cs, h, v, hv => by simp only [Rep] at h; simp [h] at hv; simp [hv, Value.oneCell']
  | .unit, n, cs, h, v, hv => by simp only [Rep] at h; simp [h] at hv
  | .slice _ e, l, cs, h, v, hv => by
    simp only [Rep] at h
    obtain ⟨a, c, rfl, _⟩ := h
    simp at hv; simp [hv, Value.oneCell']
  | .pair a b, x, cs, h, v, hv => by
    simp only [Rep] at h
    obtain ⟨c1, c2, rfl, h1, h2⟩ := h
    rcases List.mem_append.1 hv with hv | hv
    · exact Rep.one a _ _ h1 v hv
    · exact Rep.one b _ _ h2 v hv

/-- What stood in S stands; S may have grown. -/
structure Keeps (S S' : BSet) (w w' : World) : Prop where
  sub : ∀ b, S b → S' b
  same : ∀ b, S b → w'.heap[b]? = w.heap[b]?

theorem Keeps.refl (S : BSet) (w : World) : Keeps S S w w := ⟨fun _ h => h, fun _ _ => rfl⟩
theorem Keeps.trans {S S' S'' : BSet} {w w' w'' : World} (h : Keeps S S' w w') (k : Keeps S' S'' w' w'') : Keeps S S'' w w'' :=
  ⟨fun b hb => k.sub b (h.sub b hb), fun b hb => (k.same b (h.sub b hb)).trans (h.same b hb)⟩

theorem Rep.keep {S S' : BSet} {w w' : World} (hk : Keeps S S' w w') : ∀ (t : Ty) (x : t.D) (cs : List Value), Rep S w t x cs → Rep S' w' t x cs
  | .int k, n, cs, h => h
  | .bool, n, cs, h => h
  | .str, n, cs, h => h
  | .unit, n, cs, h => h
  | .slice _ e, l, cs, h => by
    simp only [Rep] at h ⊢
    obtain ⟨a, c, e1, hle, h⟩ := h
    refine ⟨a, c, e1, hle, h.imp id ?_⟩
    rintro ⟨ad, xs, e2, hs, hl, hc⟩
    exact ⟨ad, xs, e2, hk.sub _ hs, RepL.mono (fun x c hx => Rep.keep hk e x c hx) _ _ hl, fun j u hj => by
      have hb : (ad.add j).block = ad.block := by unfold Addr.add; split <;> rfl
      rw [World.cell?_of_block (w := w) (by rw [hb]; exact hk.same _ hs)]; exact hc j u hj⟩
  | .pair a b, x, cs, h => by
    simp only [Rep] at h ⊢
    obtain ⟨c1, c2, e1, h1, h2⟩ := h
    exact ⟨c1, c2, e1, Rep.keep hk a _ _ h1, Rep.keep hk b _ _ h2⟩

/-! ### Elements -/

theorem RepL.get {α : Type} {R : α → List Value → Prop} {k : Nat} (h : ∀ x c, R x c → c.length = k) : ∀ (l : List α) (xs : List Value), RepL R l xs → ∀ (i : Nat) (x : α), l[i]? = some x →
    ∃ cs, R x cs ∧ (xs.drop (i * k)).take k = cs
  | [], _, hl, i, x, hi => by simp at hi
  | y :: l, xs, ⟨c1, c2, e, h1, h2⟩, i, x, hi => by
    have hc1 := h y c1 h1
    cases i with
    | zero =>
      simp at hi; subst hi
      refine ⟨c1, h1, ?_⟩
      rw [e, Nat.zero_mul, List.drop_zero, ← hc1]; exact List.take_left
    | succ i =>
      obtain ⟨cs, hr, hcs⟩ := RepL.get h l c2 h2 i x (by simpa using hi)
      refine ⟨cs, hr, ?_⟩
      rw [e, Nat.succ_mul, Nat.add_comm, ← List.drop_drop, ← hc1, List.drop_left]
      rw [hc1]; exact hcs

theorem RepL.app {α : Type} {R : α → List Value → Prop} : ∀ (l m : List α) (xs ys : List Value), RepL R l xs → RepL R m ys → RepL R (l ++ m) (xs ++ ys)
  | [], m, xs, ys, hl, hm => by simp only [RepL] at hl; simpa [hl] using hm
  | x :: l, m, xs, ys, ⟨c1, c2, e, h1, h2⟩, hm => ⟨c1, c2 ++ ys, by rw [e, List.append_assoc], h1, RepL.app l m c2 ys h2 hm⟩

theorem RepL.take {α : Type} {R : α → List Value → Prop} {k : Nat} (h : ∀ x c, R x c → c.length = k) : ∀ (n : Nat) (l : List α) (xs : List Value), RepL R l xs → RepL R (l.take n) (xs.take (n * k))
  | 0, l, xs, hl => by simp [RepL]
  | n + 1, [], xs, hl => by simp only [RepL] at hl; simp [RepL, hl]
  | n + 1, x :: l, xs, ⟨c1, c2, e, h1, h2⟩ => by
    refine ⟨c1, c2.take (n * k), ?_, h1, RepL.take h n l c2 h2⟩
    rw [e, Nat.succ_mul, Nat.add_comm, ← h x c1 h1, List.take_length_add_append]

theorem RepL.drop {α : Type} {R : α → List Value → Prop} {k : Nat} (h : ∀ x c, R x c → c.length = k) : ∀ (n : Nat) (l : List α) (xs : List Value), RepL R l xs → RepL R (l.drop n) (xs.drop (n * k))
  | 0, l, xs, hl => by simpa using hl
  | n + 1, [], xs, hl => by simp only [RepL] at hl; simp [RepL, hl]
  | n + 1, x :: l, xs, ⟨c1, c2, e, h1, h2⟩ => by
    have := RepL.drop h n l c2 h2
    rw [List.drop_succ_cons, e, show (n + 1) * k = c1.length + n * k by rw [h x c1 h1, Nat.succ_mul, Nat.add_comm], ← List.drop_drop, List.drop_left]
    exact this

theorem RepL.set {α : Type} {R : α → List Value → Prop} {k : Nat} (h : ∀ x c, R x c → c.length = k) : ∀ (l : List α) (xs : List Value), RepL R l xs → ∀ (i : Nat) (y : α) (cs : List Value), i < l.length → R y cs →
    RepL R (l.set i y) (xs.take (i * k) ++ cs ++ xs.drop (i * k + k))
  | [], _, hl, i, y, cs, hi, _ => by simp at hi
  | x :: l, xs, ⟨c1, c2, e, h1, h2⟩, i, y, cs, hi, hy => by
    have hc1 := h x c1 h1
    cases i with
    | zero =>
      refine ⟨cs, c2, ?_, hy, h2⟩
      rw [e]; simp [← hc1]
    | succ i =>
      refine ⟨c1, _, ?_, h1, RepL.set h l c2 h2 i y cs (by simpa using hi) hy⟩
      have e1 : (i + 1) * k = c1.length + i * k := by rw [hc1, Nat.succ_mul, Nat.add_comm]
      rw [e, e1, List.take_length_add_append, show c1.length + i * k + k = c1.length + (i * k + k) by omega, ← List.drop_drop, List.drop_left]
      simp [List.append_assoc]

theorem RepL.rep {α : Type} {R : α → List Value → Prop} (x : α) (cs : List Value) (h : R x cs) : ∀ n, RepL R (List.replicate n x) (List.replicate n cs).flatten
  | 0 => by simp [RepL]
  | n + 1 => ⟨cs, (List.replicate n cs).flatten, by simp [List.replicate_succ], h, RepL.rep x cs h n⟩

/-! ### Values -/

/-- The offset of a field of a field .. -/
def offsF : Ty → List Nat → Nat
  | _, [] => 0
  | t, i :: fs => fldOff t i + match fldT t i with
    | some u => offsF u fs
    | none => 0

/-- The objects' headers. -/
abbrev Hd := Nat → Option Value
/-- What is known stays known. -/
def Hd.le (μ μ' : Hd) : Prop := ∀ o v, μ o = some v → μ' o = some v
theorem Hd.le.refl (μ : Hd) : μ.le μ := fun _ _ h => h
theorem Hd.le.trans {μ μ' μ'' : Hd} (h : μ.le μ') (k : μ'.le μ'') : μ.le μ'' := fun o v e => k o v (h o v e)

/-- Where an object's cells begin. -/
def hdr (μ : Hd) (o g : Nat) : Prop :=
  (∃ n c, μ o = some (.slice (some ⟨g, 0, none⟩) n c)) ∨ μ o = some (.pointer (some ⟨g, 0, none⟩))

mutual
/-- A value in the frame. μ: the objects' headers. -/
def VRep (μ : Hd) (S : BSet) (w : World) : V → Value → Prop
  | .undef, _ => True
  | .skp, u => u = Go.undef
  | .kb b, u => u = .bool b
  | .dat t x, u => ∃ cs, Rep S w t x cs ∧ u = mkV t cs
  | .nils, u => u = .slice none 0 0
  | .agg vs, u => ∃ cs, u = .agg cs ∧ VRepL μ S w vs cs.toList ∧ ∀ x ∈ cs.toList, x.oneCell' = true
  | .ip t x, u => ∃ ad cs, u = .pointer (some ad) ∧ Rep S w t x cs ∧ S ad.block ∧ ∀ j v, cs[j]? = some v → w.cell? (ad.add j) = some v
  | .cp o off, u => ∃ g, μ o = some (.pointer (some ⟨g, 0, none⟩)) ∧ u = .pointer (some ⟨g, off, none⟩)
  | .ep o e i fs, u => ∃ g, hdr μ o g ∧ 0 ≤ i ∧ u = .pointer (some ⟨g, i.toNat * e.size + offsF e fs, none⟩)
  | .ap o, u => ∃ g, μ o = some (.pointer (some ⟨g, 0, none⟩)) ∧ u = .pointer (some ⟨g, 0, none⟩)
  | .row o, u => μ o = some u ∧ ∃ a n c, u = .slice a n c
  | .sub o e lo hi, u => ∃ a n c p, μ o = some (.slice a n c) ∧ (a = none ∨ ∃ g, a = some ⟨g, 0, none⟩) ∧ 0 ≤ lo ∧ lo ≤ hi ∧ hi ≤ (n : Int) ∧ n ≤ c ∧
      u = .slice p (hi.toNat - lo.toNat) (c - lo.toNat) ∧ (lo.toNat < c → p = a.map (·.add (lo.toNat * e.size))) ∧ (lo = 0 → p = a)
  | .fn f vs, u => ∃ cs, u = .func (.func f) #[] cs ∧ VRepL μ S w vs cs.toList
  | .ifc b, u => if b then u = .nilIface else ∃ t v, u = .iface t v
  | .tup vs, u => ∃ cs, u = .tuple cs ∧ VRepL μ S w vs cs.toList
def VRepL (μ : Hd) (S : BSet) (w : World) : List V → List Value → Prop
  | [], us => us = []
  | v :: vs, us => ∃ u r, us = u :: r ∧ VRep μ S w v u ∧ VRepL μ S w vs r
end

theorem hdr.ext {μ μ' : Hd} (hp : μ.le μ') {o g : Nat} (h : hdr μ o g) : hdr μ' o g := by
  rcases h with ⟨n, c, h⟩ | h
  · exact .inl ⟨n, c, hp _ _ h⟩
  · exact .inr (hp _ _ h)

mutual
theorem VRep.keep {μ μ' : Hd} {S S' : BSet} {w w' : World} (hp : μ.le μ') (hk : Keeps S S' w w') : ∀ (v : V) (u : Value), VRep μ S w v u → VRep μ' S' w' v u
  | .undef, _, h => by simp [VRep]
  | .skp, u, h => by simp only [VRep] at *; exact h
  | .kb b, u, h => by simp only [VRep] at *; exact h
  | .dat t x, u, h => by
    simp only [VRep] at *
    obtain ⟨cs, h1, h2⟩ := h
    exact ⟨cs, Rep.keep hk t x cs h1, h2⟩
  | .nils, u, h => by simp only [VRep] at *; exact h
  | .agg vs, u, h => by
    simp only [VRep] at *
    obtain ⟨cs, h1, h2, h3⟩ := h
    exact ⟨cs, h1, VRepL.keep hp hk vs _ h2, h3⟩
  | .ip t x, u, h => by
    simp only [VRep] at *
    obtain ⟨ad, cs, h1, h2, h3, h4⟩ := h
    exact ⟨ad, cs, h1, Rep.keep hk t x cs h2, hk.sub _ h3, fun j v hj => by
      have hb : (ad.add j).block = ad.block := by unfold Addr.add; split <;> rfl
      rw [World.cell?_of_block (w := w) (by rw [hb]; exact hk.same _ h3)]; exact h4 j v hj⟩
  | .cp o off, u, h => by
    simp only [VRep] at *
    obtain ⟨g, h1, h2⟩ := h
    exact ⟨g, hp _ _ h1, h2⟩
  | .ep o e i fs, u, h => by
    simp only [VRep] at *
    obtain ⟨g, h1, h2⟩ := h
    exact ⟨g, h1.ext hp, h2⟩
  | .ap o, u, h => by
    simp only [VRep] at *
    obtain ⟨g, h1, h2⟩ := h
    exact ⟨g, hp _ _ h1, h2⟩
  | .row o, u, h => by
    simp only [VRep] at *
    exact ⟨hp _ _ h.1, h.2⟩
  | .sub o e lo hi, u, h => by
    simp only [VRep] at *
    obtain ⟨a, n, c, p, h1, h2⟩ := h
    exact ⟨a, n, c, p, hp _ _ h1, h2⟩
  | .fn f vs, u, h => by
    simp only [VRep] at *
    obtain ⟨cs, h1, h2⟩ := h
    exact ⟨cs, h1, VRepL.keep hp hk vs _ h2⟩
  | .ifc b, u, h => by simp only [VRep] at *; exact h
  | .tup vs, u, h => by
    simp only [VRep] at *
    obtain ⟨cs, h1, h2⟩ := h
    exact ⟨cs, h1, VRepL.keep hp hk vs _ h2⟩
theorem VRepL.keep {μ μ' : Hd} {S S' : BSet} {w w' : World} (hp : μ.le μ') (hk : Keeps S S' w w') : ∀ (vs : List V) (us : List Value), VRepL μ S w vs us → VRepL μ' S' w' vs us
  | [], us, h => by simp only [VRepL] at *; exact h
  | v :: vs, us, h => by
    simp only [VRepL] at *
    obtain ⟨u, r, h1, h2, h3⟩ := h
    exact ⟨u, r, h1, VRep.keep hp hk v u h2, VRepL.keep hp hk vs r h3⟩
end

theorem VRepL.len {μ : Hd} {S : BSet} {w : World} : ∀ (vs : List V) (us : List Value), VRepL μ S w vs us → us.length = vs.length
  | [], us, h => by simp only [VRepL] at h; simp [h]
  | v :: vs, us, h => by
    simp only [VRepL] at h
    obtain ⟨u, r, rfl, _, h3⟩ := h
    simp [VRepL.len vs r h3]

theorem VRepL.get {μ : Hd} {S : BSet} {w : World} : ∀ (vs : List V) (us : List Value), VRepL μ S w vs us → ∀ (i : Nat) (v : V), vs[i]? = some v → ∃ u, us[i]? = some u ∧ VRep μ S w v u
  | [], us, h, i, v, hi => by simp at hi
  | x :: vs, us, h, i, v, hi => by
    simp only [VRepL] at h
    obtain ⟨u, r, rfl, h1, h3⟩ := h
    cases i with
    | zero => simp at hi; subst hi; exact ⟨u, by simp, h1⟩
    | succ i => obtain ⟨u', h4, h5⟩ := VRepL.get vs r h3 i v (by simpa using hi); exact ⟨u', by simpa using h4, h5⟩

theorem VRepL.app {μ : Hd} {S : BSet} {w : World} : ∀ (vs : List V) (us : List Value) (vs' : List V) (us' : List Value), VRepL μ S w vs us → VRepL μ S w vs' us' → VRepL μ S w (vs ++ vs') (us ++ us')
  | [], us, vs', us', h, h' => by simp only [VRepL] at h; simpa [h] using h'
  | v :: vs, us, vs', us', h, h' => by
    simp only [VRepL] at h
    obtain ⟨u, r, rfl, h1, h3⟩ := h
    simp only [List.cons_append, VRepL]
    exact ⟨u, r ++ us', rfl, h1, VRepL.app vs r vs' us' h3 h'⟩

theorem VRepL.take {μ : Hd} {S : BSet} {w : World} : ∀ (n : Nat) (vs : List V) (us : List Value), VRepL μ S w vs us → VRepL μ S w (vs.take n) (us.take n)
  | 0, vs, us, h => by simp [VRepL]
  | n + 1, [], us, h => by simp only [VRepL] at h; simp [VRepL, h]
  | n + 1, v :: vs, us, h => by
    simp only [VRepL] at h
    obtain ⟨u, r, rfl, h1, h3⟩ := h
    simp only [List.take_succ_cons, VRepL]
    exact ⟨u, r.take n, rfl, h1, VRepL.take n vs r h3⟩

theorem VRepL.drop {μ : Hd} {S : BSet} {w : World} : ∀ (n : Nat) (vs : List V) (us : List Value), VRepL μ S w vs us → VRepL μ S w (vs.drop n) (us.drop n)
  | 0, vs, us, h => by simpa using h
  | n + 1, [], us, h => by simp only [VRepL] at h; simp [VRepL, h]
  | n + 1, v :: vs, us, h => by
    simp only [VRepL] at h
    obtain ⟨u, r, rfl, h1, h3⟩ := h
    simpa using VRepL.drop n vs r h3

/-- A datum laid out in cells. -/
theorem VRepL.explode {μ : Hd} {S : BSet} {w : World} : ∀ (t : Ty) (x : t.D) (cs : List Value), Rep S w t x cs → VRepL μ S w (explode t x) cs
  | .int k, n, cs, h => by
    have h' := h; simp only [Rep] at h; subst h
    simp only [X.explode, VRepL, VRep]
    exact ⟨_, _, rfl, ⟨_, h', rfl⟩, rfl⟩
  | .bool, n, cs, h => by
    have h' := h; simp only [Rep] at h; subst h
    simp only [X.explode, VRepL, VRep]
    exact ⟨_, _, rfl, ⟨_, h', rfl⟩, rfl⟩
  | .str, n, cs, h => by
    have h' := h; simp only [Rep] at h; subst h
    simp only [X.explode, VRepL, VRep]
    exact ⟨_, _, rfl, ⟨_, h', rfl⟩, rfl⟩
  | .unit, n, cs, h => by simp only [Rep] at h; subst h; simp [X.explode, VRepL]
  | .slice E e, l, cs, h => by
    have h' := h; simp only [Rep] at h
    obtain ⟨a, c, rfl, _⟩ := h
    simp only [X.explode, VRepL, VRep]
    exact ⟨_, _, rfl, ⟨_, h', rfl⟩, rfl⟩
  | .pair a b, x, cs, h => by
    simp only [Rep] at h
    obtain ⟨c1, c2, rfl, h1, h2⟩ := h
    simp only [X.explode]
    exact VRepL.app _ _ _ _ (VRepL.explode a _ _ h1) (VRepL.explode b _ _ h2)

theorem mkV_cells {S : BSet} {w : World} (t : Ty) (x : t.D) (cs : List Value) (h : Rep S w t x cs) : (mkV t cs).cells.toList = cs := by
  cases t with
  | pair a b => simp [mkV, Ty.isAgg, Value.cells]
  | unit => simp [mkV, Ty.isAgg, Value.cells]
  | slice E e =>
    simp only [Rep] at h
    obtain ⟨a, c, rfl, _⟩ := h
    simp [mkV, Ty.isAgg, Value.cells]
  | _ => simp only [Rep] at h; subst h; simp [mkV, Ty.isAgg, Value.cells]

/-- A value's cells. -/
theorem VRep.cells {μ : Hd} {S : BSet} {w : World} (v : V) (u : Value) (h : VRep μ S w v u) (hv : v ≠ .undef) : VRepL μ S w (cellsOf v) u.cells.toList := by
  cases v with
  | agg vs =>
    simp only [VRep] at h
    obtain ⟨cs, rfl, h2, _⟩ := h
    simpa [cellsOf, Value.cells] using h2
  | dat t x =>
    simp only [VRep] at h
    obtain ⟨cs, h1, rfl⟩ := h
    rw [mkV_cells t x cs h1]
    exact VRepL.explode t x cs h1
  | undef => exact absurd rfl hv
  | skp => simp only [VRep] at h; subst h; simp [cellsOf, Go.undef, Value.cells, VRepL, VRep]
  | kb b => simp only [VRep] at h; subst h; simp [cellsOf, Value.cells, VRepL, VRep]
  | nils => simp only [VRep] at h; subst h; simp [cellsOf, Value.cells, VRepL, VRep]
  | ip t x =>
    have h' := h
    simp only [VRep] at h
    obtain ⟨ad, cs, rfl, _⟩ := h
    simp only [cellsOf, Value.cells, VRepL]
    exact ⟨_, _, rfl, h', rfl⟩
  | cp o off =>
    have h' := h
    simp only [VRep] at h
    obtain ⟨g, _, rfl⟩ := h
    simp only [cellsOf, Value.cells, VRepL]
    exact ⟨_, _, rfl, h', rfl⟩
  | ep o e i fs =>
    have h' := h
    simp only [VRep] at h
    obtain ⟨g, _, _, rfl⟩ := h
    simp only [cellsOf, Value.cells, VRepL]
    exact ⟨_, _, rfl, h', rfl⟩
  | ap o =>
    have h' := h
    simp only [VRep] at h
    obtain ⟨g, _, rfl⟩ := h
    simp only [cellsOf, Value.cells, VRepL]
    exact ⟨_, _, rfl, h', rfl⟩
  | fn f vs =>
    have h' := h
    simp only [VRep] at h
    obtain ⟨cs, rfl, _⟩ := h
    simp only [cellsOf, Value.cells, VRepL]
    exact ⟨_, _, rfl, h', rfl⟩
  | tup vs =>
    have h' := h
    simp only [VRep] at h
    obtain ⟨cs, rfl, _⟩ := h
    simp only [cellsOf, Value.cells, VRepL]
    exact ⟨_, _, rfl, h', rfl⟩
  | sub o e lo hi =>
    have h' := h
    simp only [VRep] at h
    obtain ⟨a, n, c, p, _, _, _, _, _, _, rfl, _⟩ := h
    simp only [cellsOf, Value.cells, VRepL]
    exact ⟨_, _, rfl, h', rfl⟩
  | row o =>
    have h' := h
    simp only [VRep] at h
    obtain ⟨_, a, n, c, rfl⟩ := h
    simp only [cellsOf, Value.cells, VRepL]
    exact ⟨_, _, rfl, h', rfl⟩
  | ifc b =>
    have h' := h
    simp only [VRep] at h
    cases b
    · simp only [Bool.false_eq_true, if_false] at h
      obtain ⟨t, v, rfl⟩ := h
      simp only [cellsOf, Value.cells, VRepL]
      exact ⟨_, _, rfl, h', rfl⟩
    · simp only [if_true] at h
      subst h
      simp only [cellsOf, Value.cells, VRepL]
      exact ⟨_, _, rfl, h', rfl⟩

theorem VRep.cells1 {μ : Hd} {S : BSet} {w : World} (v : V) (u : Value) (h : VRep μ S w v u) (hv : okV v = true) : ∀ x ∈ u.cells.toList, x.oneCell' = true := by
  have one : u.cells = #[u] → u.oneCell' = true → ∀ x ∈ u.cells.toList, x.oneCell' = true := by
    intro h1 h2 x hx
    rw [h1] at hx
    simp at hx
    subst hx; exact h2
  cases v with
  | agg vs =>
    simp only [VRep] at h
    obtain ⟨cs, rfl, h2, h3⟩ := h
    simpa [Value.cells] using h3
  | dat t x =>
    simp only [VRep] at h
    obtain ⟨cs, h1, rfl⟩ := h
    rw [mkV_cells t x cs h1]
    exact Rep.one t x cs h1
  | undef => cases hv
  | skp => cases hv
  | tup _ => cases hv
  | kb b => simp only [VRep] at h; subst h; exact one rfl rfl
  | nils => simp only [VRep] at h; subst h; exact one rfl rfl
  | ip t x => simp only [VRep] at h; obtain ⟨ad, cs, rfl, _⟩ := h; exact one rfl rfl
  | cp o off => simp only [VRep] at h; obtain ⟨g, _, rfl⟩ := h; exact one rfl rfl
  | ep o e i fs => simp only [VRep] at h; obtain ⟨g, _, _, rfl⟩ := h; exact one rfl rfl
  | ap o => simp only [VRep] at h; obtain ⟨g, _, rfl⟩ := h; exact one rfl rfl
  | fn f vs => simp only [VRep] at h; obtain ⟨cs, rfl, _⟩ := h; exact one rfl rfl
  | sub o e lo hi => simp only [VRep] at h; obtain ⟨a, n, c, p, _, _, _, _, _, _, rfl, _⟩ := h; exact one rfl rfl
  | row o => simp only [VRep] at h; obtain ⟨_, a, n, c, rfl⟩ := h; exact one rfl rfl
  | ifc b =>
    simp only [VRep] at h
    cases b
    · simp only [Bool.false_eq_true, if_false] at h
      obtain ⟨t, v, rfl⟩ := h
      exact one rfl rfl
    · simp only [if_true] at h
      subst h
      exact one rfl rfl

end X
end Go.Proofs.YtjnfmjeiceiciaaGreat

/-
The abstract heap in memory: what holds of it, and how it is kept when memory grows or one of its objects is written.
-/
namespace Go.Proofs.YtjnfmjeiceiciaaGreat
namespace X
open Go Go.RowKit
set_option linter.unusedVariables false
set_option linter.unusedSimpArgs false

/-- A header of a slice begins at its block's head. -/
def headS (u : Value) : Prop := ∃ a n c, u = .slice a n c ∧ n ≤ c ∧ (a = none ∨ ∃ g, a = some ⟨g, 0, none⟩)

/-- An object under its header. -/
def ORep (μ : Hd) (S : BSet) (w : World) : Ob → Value → Prop
  | .cells vs, u => ∃ g cs T, u = .pointer (some ⟨g, 0, none⟩) ∧ w.heap[g]? = some (.cells cs T (0, 0)) ∧ VRepL μ S w vs cs.toList ∧ ∀ x ∈ cs.toList, x.oneCell' = true
  | .row E e l, u => ∃ xs, w.ownsRow 0 E e.size u l.length xs ∧ RepL (Rep S w e) l xs
  | .arr e l, u => ∃ g cs T, u = .pointer (some ⟨g, 0, none⟩) ∧ w.heap[g]? = some (.cells cs T (0, 0)) ∧ RepL (Rep S w e) l cs.toList
  | .fro E e l, u => Rep S w (.slice E e) l [u] ∧ headS u
  | .dead, u => True

/-- The block that an object may write. -/
def ownB : Ob → Value → Option Nat
  | .cells _, .pointer (some a) => some a.block
  | .arr _ _, .pointer (some a) => some a.block
  | .row _ _ _, .slice (some a) _ _ => some a.block
  | _, _ => none

theorem ORep.lt {μ : Hd} {S : BSet} {w : World} {ob : Ob} {u : Value} (h : ORep μ S w ob u) {b : Nat} (hb : ownB ob u = some b) : b < w.heap.size := by
  have lt : ∀ g cs T, w.heap[g]? = some (Obj.cells cs T (0, 0)) → g < w.heap.size := fun g cs T hg => by
    obtain ⟨h, _⟩ := Array.getElem?_eq_some_iff.1 hg; exact h
  cases ob with
  | cells vs => obtain ⟨g, cs, T, rfl, hg, _⟩ := h; simp [ownB] at hb; subst hb; exact lt _ _ _ hg
  | arr e l => obtain ⟨g, cs, T, rfl, hg, _⟩ := h; simp [ownB] at hb; subst hb; exact lt _ _ _ hg
  | row E e l =>
    obtain ⟨xs, ho, _⟩ := h
    refine (ho.lt b ?_).2
    cases u <;> simp [ownB] at hb
    rename_i a n c
    cases a <;> simp [ownB] at hb
    simp [Value.ownBlock, hb]
  | fro E e l => simp [ownB] at hb
  | dead => simp [ownB] at hb

theorem ownsRow_keep {w w' : World} {E : TypeId} {k : Nat} {u : Value} {n : Nat} {xs : List Value} (h : w.ownsRow 0 E k u n xs) (hb : ∀ b, u.ownBlock = some b → w'.heap[b]? = w.heap[b]?) : w'.ownsRow 0 E k u n xs := by
  obtain ⟨h1, h2⟩ := h
  refine ⟨h1, h2.imp id ?_⟩
  rintro ⟨g, cap, cur, rfl, hg, hh, r⟩
  exact ⟨g, cap, cur, rfl, hg, by rw [hb g (by simp [Value.ownBlock])]; exact hh, r⟩

theorem ownsRow_owner {w : World} {E : TypeId} {k : Nat} {u : Value} {n : Nat} {xs : List Value} (h : w.ownsRow 0 E k u n xs) (e : Ty) (l : List e.D) : ownB (.row E e l) u = u.ownBlock := by
  rcases h.2 with ⟨rfl, _⟩ | ⟨g, cap, cur, rfl, _⟩ <;> rfl

theorem ORep.keep {μ μ' : Hd} {S S' : BSet} {w w' : World} (hp : μ.le μ') (hk : Keeps S S' w w') {ob : Ob} {u : Value} (h : ORep μ S w ob u)
    (hb : ∀ b, ownB ob u = some b → w'.heap[b]? = w.heap[b]?) : ORep μ' S' w' ob u := by
  cases ob with
  | cells vs => obtain ⟨g, cs, T, rfl, hg, hv, h1⟩ := h; exact ⟨g, cs, T, rfl, by rw [hb g rfl]; exact hg, VRepL.keep hp hk _ _ hv, h1⟩
  | arr e l => obtain ⟨g, cs, T, rfl, hg, hv⟩ := h; exact ⟨g, cs, T, rfl, by rw [hb g rfl]; exact hg, RepL.mono (fun x c => Rep.keep hk e x c) _ _ hv⟩
  | row E e l =>
    obtain ⟨xs, ho, hl⟩ := h
    refine ⟨xs, ownsRow_keep ho fun b hb' => hb b (by rw [ownsRow_owner ho]; exact hb'), RepL.mono (fun x c => Rep.keep hk e x c) _ _ hl⟩
  | fro E e l => exact ⟨Rep.keep hk _ _ _ h.1, h.2⟩
  | dead => trivial

/-- The world in which the call began, and the blocks of it that were handed over. -/
structure Base where
  W : World
  A : BSet
  S0 : BSet

/-- A block that may be written here. -/
def Base.ours (B : Base) (b : Nat) : Prop := B.W.heap.size ≤ b ∨ B.A b

structure Frame0 (B : Base) (w : World) : Prop where
  os : w.os = B.W.os
  tape : w.tape = B.W.tape
  output : w.output = B.W.output
  size : B.W.heap.size ≤ w.heap.size
  same : ∀ k, k < B.W.heap.size → ¬ B.A k → w.heap[k]? = B.W.heap[k]?
  drew : B.W.drawn ≤ w.drawn

/-- The abstract heap in memory. -/
structure Inv (B : Base) (μ : Hd) (S : BSet) (w : World) (h : Hp) : Prop where
  base : Frame0 B w
  dom : ∀ (o : Nat) (ob : Ob), h[o]? = some ob → ob ≠ .dead → ∃ u, μ o = some u
  fresh : ∀ o, h.length ≤ o → μ o = none
  obj : ∀ (o : Nat) (ob : Ob) (u : Value), h[o]? = some ob → μ o = some u → ORep μ S w ob u
  sep : ∀ (o o' : Nat) (ob ob' : Ob) (u u' : Value) (b : Nat), h[o]? = some ob → h[o']? = some ob' → μ o = some u → μ o' = some u' → ownB ob u = some b → ownB ob' u' = some b → o = o'
  out : ∀ (o : Nat) (ob : Ob) (u : Value) (b : Nat), h[o]? = some ob → μ o = some u → ownB ob u = some b → ¬ S b ∧ B.ours b
  lt : ∀ b, S b → b < w.heap.size
  sub : ∀ b, S b → B.S0 b ∨ B.ours b

/-- From one state to a later one. -/
structure Step (B : Base) (μ μ' : Hd) (S S' : BSet) (w w' : World) : Prop where
  pre : μ.le μ'
  keep : Keeps S S' w w'

theorem Step.refl (B : Base) (μ : Hd) (S : BSet) (w : World) : Step B μ μ S S w w := ⟨Hd.le.refl _, Keeps.refl S w⟩
theorem Step.trans {B : Base} {μ μ' μ'' : Hd} {S S' S'' : BSet} {w w' w'' : World} (h : Step B μ μ' S S' w w') (k : Step B μ' μ'' S' S'' w' w'') : Step B μ μ'' S S'' w w'' :=
  ⟨h.pre.trans k.pre, h.keep.trans k.keep⟩

/-- The world as it was, and more. -/
structure More (w w' : World) : Prop where
  os : w'.os = w.os
  tape : w'.tape = w.tape
  output : w'.output = w.output
  size : w.heap.size ≤ w'.heap.size
  same : ∀ k, k < w.heap.size → w'.heap[k]? = w.heap[k]?
  drew : w.drawn ≤ w'.drawn

theorem More.refl (w : World) : More w w := ⟨rfl, rfl, rfl, Nat.le_refl _, fun _ _ => rfl, Nat.le_refl _⟩
theorem More.trans {a b c : World} (h : More a b) (k : More b c) : More a c :=
  ⟨k.os.trans h.os, k.tape.trans h.tape, k.output.trans h.output, Nat.le_trans h.size k.size, fun i hi => (k.same i (Nat.lt_of_lt_of_le hi h.size)).trans (h.same i hi), Nat.le_trans h.drew k.drew⟩
theorem More.drew1 (w : World) (n : Nat) (h : w.drawn ≤ n) : More w { w with drawn := n } := ⟨rfl, rfl, rfl, Nat.le_refl _, fun _ _ => rfl, h⟩
theorem More.alloc (w : World) (o : Obj) : More w (w.alloc o) := ⟨rfl, rfl, rfl, by simp, fun k hk => Below.heap_alloc w o k hk, Nat.le_refl _⟩
theorem More.keeps {w w' : World} (h : More w w') {S : BSet} (hs : ∀ b, S b → b < w.heap.size) : Keeps S S w w' := ⟨fun _ h => h, fun b hb => h.same b (hs b hb)⟩

theorem Frame0.more {B : Base} {w w' : World} (h : Frame0 B w) (k : More w w') : Frame0 B w' :=
  ⟨k.os.trans h.os, k.tape.trans h.tape, k.output.trans h.output, Nat.le_trans h.size k.size, fun i hi hA => (k.same i (Nat.lt_of_lt_of_le hi h.size)).trans (h.same i hi hA), Nat.le_trans h.drew k.drew⟩

/-- Memory has grown, no more. -/
theorem Inv.more {B : Base} {μ : Hd} {S : BSet} {w w' : World} {h : Hp} (I : Inv B μ S w h) (k : More w w') : Inv B μ S w' h where
  base := I.base.more k
  dom := I.dom
  fresh := I.fresh
  obj o ob u h1 h2 := (I.obj o ob u h1 h2).keep (Hd.le.refl _) (k.keeps I.lt) fun b hb => k.same b ((I.obj o ob u h1 h2).lt hb)
  sep := I.sep
  out := I.out
  lt b hb := Nat.lt_of_lt_of_le (I.lt b hb) k.size
  sub := I.sub

theorem get_snoc {α : Type} {l : List α} {x : α} {i : Nat} {y : α} (h : (l ++ [x])[i]? = some y) : (i < l.length ∧ l[i]? = some y) ∨ (i = l.length ∧ y = x) := by
  rcases Nat.lt_trichotomy i l.length with hi | hi | hi
  · exact .inl ⟨hi, by rwa [List.getElem?_append_left hi] at h⟩
  · subst hi; simp at h; exact .inr ⟨rfl, h.symm⟩
  · rw [List.getElem?_eq_none (by simp; omega)] at h; simp at h

/-- A header more. -/
def Hd.put (μ : Hd) (n : Nat) (u : Value) : Hd := fun o => if o = n then some u else μ o
theorem Hd.put_le {μ : Hd} {n : Nat} {u : Value} (hn : μ n = none) : μ.le (μ.put n u) := fun o v h => by
  unfold Hd.put
  split
  · rename_i e; subst e; rw [hn] at h; cases h
  · exact h
theorem Hd.put_same {μ : Hd} {n : Nat} {u : Value} : μ.put n u n = some u := by simp [Hd.put]
theorem Hd.put_get {μ : Hd} {n o : Nat} {u v : Value} (h : μ.put n u o = some v) : (o = n ∧ v = u) ∨ (o ≠ n ∧ μ o = some v) := by
  unfold Hd.put at h
  split at h
  · cases h; exact .inl ⟨by assumption, rfl⟩
  · exact .inr ⟨by assumption, h⟩

/-- A new object, at a number that is free. -/
theorem Inv.place {B : Base} {μ : Hd} {S : BSet} {w w' : World} {h h' : Hp} (I : Inv B μ S w h) (k : More w w') {ob : Ob} {u : Value} {n : Nat} (hn : μ n = none)
    (e1 : h'[n]? = some ob) (e2 : ∀ i x, i ≠ n → h'[i]? = some x → h[i]? = some x) (e3 : h.length ≤ h'.length) (ho : ORep (μ.put n u) S w' ob u)
    (hb : ∀ b, ownB ob u = some b → w.heap.size ≤ b) : Inv B (μ.put n u) S w' h' := by
  have I' := I.more k
  have hout : ∀ (o : Nat) (ob' : Ob) (u' : Value) (b : Nat), h[o]? = some ob' → μ o = some u' → ownB ob' u' = some b → b < w.heap.size := fun o ob' u' b h1 h2 h3 => (I.obj o ob' u' h1 h2).lt h3
  have hlt : n < h'.length := by obtain ⟨h, _⟩ := List.getElem?_eq_some_iff.1 e1; exact h
  refine ⟨I'.base, fun o ob' h1 hd => ?_, fun o hle => ?_, fun o ob' u' h1 h2 => ?_, fun o o' ob1 ob2 u1 u2 b h1 h2 h3 h4 h5 h6 => ?_, fun o ob' u' b h1 h2 h3 => ?_, I'.lt, I'.sub⟩
  · by_cases hon : o = n
    · subst hon; exact ⟨u, Hd.put_same⟩
    · obtain ⟨v, hv⟩ := I.dom o ob' (e2 o ob' hon h1) hd
      exact ⟨v, Hd.put_le hn o v hv⟩
  · have : o ≠ n := by omega
    simp only [Hd.put, this, if_false]
    exact I.fresh o (by omega)
  · rcases Hd.put_get h2 with ⟨rfl, rfl⟩ | ⟨hne, h2'⟩
    · rw [e1] at h1; cases h1; exact ho
    · exact (I'.obj o ob' u' (e2 o ob' hne h1) h2').keep (Hd.put_le hn) (Keeps.refl S w') fun _ _ => rfl
  · rcases Hd.put_get h3 with ⟨rfl, rfl⟩ | ⟨hne, h3'⟩ <;> rcases Hd.put_get h4 with ⟨rfl, rfl⟩ | ⟨hne2, h4'⟩
    · rfl
    · rw [e1] at h1; cases h1
      have := hb b h5; have := hout _ _ _ _ (e2 _ _ hne2 h2) h4' h6; omega
    · rw [e1] at h2; cases h2
      have := hb b h6; have := hout _ _ _ _ (e2 _ _ hne h1) h3' h5; omega
    · exact I.sep o o' _ _ _ _ b (e2 _ _ hne h1) (e2 _ _ hne2 h2) h3' h4' h5 h6
  · rcases Hd.put_get h2 with ⟨rfl, rfl⟩ | ⟨hne, h2'⟩
    · rw [e1] at h1; cases h1
      have hge := hb b h3
      exact ⟨fun hs => by have := I.lt b hs; omega, .inl (Nat.le_trans I.base.size hge)⟩
    · exact I.out o _ _ b (e2 _ _ hne h1) h2' h3

/-- A new object, at the end. -/
theorem Inv.push {B : Base} {μ : Hd} {S : BSet} {w w' : World} {h : Hp} (I : Inv B μ S w h) (k : More w w') {ob : Ob} {u : Value} (ho : ORep (μ.put h.length u) S w' ob u)
    (hb : ∀ b, ownB ob u = some b → w.heap.size ≤ b) : Inv B (μ.put h.length u) S w' (h ++ [ob]) :=
  I.place k (I.fresh _ (Nat.le_refl _)) (by simp) (fun i x hi hx => by
    rcases get_snoc hx with ⟨_, e⟩ | ⟨e, _⟩
    · exact e
    · exact absurd e hi) (by simp) ho hb

theorem get_set {α : Type} {l : List α} {x : α} {o i : Nat} {y : α} (h : (l.set o x)[i]? = some y) : (i = o ∧ y = x ∧ o < l.length) ∨ (i ≠ o ∧ l[i]? = some y) := by
  rw [List.getElem?_set] at h
  split at h
  · rename_i e
    split at h
    · simp at h; exact .inl ⟨e.symm, h.symm, by assumption⟩
    · simp at h
  · rename_i e; exact .inr ⟨fun e' => e e'.symm, h⟩

theorem Inv.dom_set {B : Base} {μ : Hd} {S : BSet} {w : World} {h : Hp} (I : Inv B μ S w h) {o : Nat} {ob : Ob} (ho : ob ≠ .dead → ∃ u, μ o = some u) :
    ∀ (i : Nat) (x : Ob), (h.set o ob)[i]? = some x → x ≠ .dead → ∃ u, μ i = some u := fun i x hi hx => by
  rcases get_set hi with ⟨rfl, rfl, _⟩ | ⟨_, hi'⟩
  · exact ho hx
  · exact I.dom i x hi' hx

/-- One object's block is written, no other. -/
theorem Inv.write {B : Base} {μ : Hd} {S : BSet} {w w' : World} {h : Hp} (I : Inv B μ S w h) {o : Nat} {ob ob' : Ob} {u : Value} (h1 : h[o]? = some ob) (h2 : μ o = some u) {g : Nat}
    (hg : ownB ob u = some g) (hg' : ownB ob' u = some g ∨ ownB ob' u = none)
    (os : w'.os = w.os) (tape : w'.tape = w.tape) (output : w'.output = w.output) (size : w'.heap.size = w.heap.size) (same : ∀ k, k ≠ g → w'.heap[k]? = w.heap[k]?) (drew : w.drawn ≤ w'.drawn)
    (ho : ORep μ S w' ob' u) : Inv B μ S w' (h.set o ob') ∧ Keeps S S w w' := by
  have hS : ¬ S g ∧ B.ours g := I.out o ob u g h1 h2 hg
  have hk : Keeps S S w w' := ⟨fun _ h => h, fun b hb => same b fun e => hS.1 (e ▸ hb)⟩
  refine ⟨⟨⟨os.trans I.base.os, tape.trans I.base.tape, output.trans I.base.output, by rw [size]; exact I.base.size, fun k hk hA => ?_, Nat.le_trans I.base.drew drew⟩, I.dom_set (fun _ => ⟨u, h2⟩), fun o' ho' => I.fresh o' (by simpa using ho'), fun o' ob1 u1 e1 e2 => ?_, fun o1 o2 ob1 ob2 u1 u2 b e1 e2 e3 e4 e5 e6 => ?_, fun o1 ob1 u1 b e1 e2 e3 => ?_, fun b hb => by rw [size]; exact I.lt b hb, I.sub⟩, hk⟩
  · refine (same k ?_).trans (I.base.same k hk hA)
    rintro rfl
    rcases hS.2 with h | h
    · omega
    · exact hA h
  · rcases get_set e1 with ⟨rfl, rfl, _⟩ | ⟨hne, e1'⟩
    · rw [h2] at e2; cases e2; exact ho
    · refine (I.obj o' ob1 u1 e1' e2).keep (Hd.le.refl _) hk fun b hb => same b ?_
      rintro rfl
      exact hne (I.sep o' o ob1 ob u1 u _ e1' h1 e2 h2 hb hg)
  · have key : ∀ {o1 : Nat} {ob1 : Ob} {u1 : Value}, (h.set o ob')[o1]? = some ob1 → μ o1 = some u1 → ownB ob1 u1 = some b → ∃ ob2, h[o1]? = some ob2 ∧ ownB ob2 u1 = some b := by
      intro o1 ob1 u1 f1 f2 f3
      rcases get_set f1 with ⟨rfl, rfl, _⟩ | ⟨hne, e1'⟩
      · rw [h2] at f2; cases f2
        rcases hg' with hg' | hg'
        · rw [hg'] at f3; cases f3; exact ⟨ob, h1, hg⟩
        · rw [hg'] at f3; cases f3
      · exact ⟨ob1, e1', f3⟩
    obtain ⟨x1, a1, b1⟩ := key e1 e3 e5
    obtain ⟨x2, a2, b2⟩ := key e2 e4 e6
    exact I.sep o1 o2 x1 x2 u1 u2 b a1 a2 e3 e4 b1 b2
  · rcases get_set e1 with ⟨rfl, rfl, _⟩ | ⟨hne, e1'⟩
    · rw [h2] at e2; cases e2
      rcases hg' with hg' | hg'
      · rw [hg'] at e3; cases e3; exact hS
      · rw [hg'] at e3; cases e3
    · exact I.out o1 ob1 u1 b e1' e2 e3

/-- An object is given up. -/
theorem Inv.drop {B : Base} {μ : Hd} {S : BSet} {w : World} {h : Hp} (I : Inv B μ S w h) (o : Nat) : Inv B μ S w (h.set o .dead) := by
  have key : ∀ {o1 : Nat} {ob1 : Ob}, (h.set o .dead)[o1]? = some ob1 → ob1 = .dead ∨ h[o1]? = some ob1 := by
    intro o1 ob1 e1
    rcases get_set e1 with ⟨rfl, rfl, _⟩ | ⟨_, e1'⟩
    · exact .inl rfl
    · exact .inr e1'
  refine ⟨I.base, I.dom_set (fun hd => absurd rfl hd), fun o' ho' => I.fresh o' (by simpa using ho'), fun o' ob1 u1 e1 e2 => ?_, fun o1 o2 ob1 ob2 u1 u2 b e1 e2 e3 e4 e5 e6 => ?_, fun o1 ob1 u1 b e1 e2 e3 => ?_, I.lt, I.sub⟩
  · rcases key e1 with rfl | e
    · trivial
    · exact I.obj _ _ _ e e2
  · rcases key e1 with rfl | e
    · simp [ownB] at e5
    · rcases key e2 with rfl | e'
      · simp [ownB] at e6
      · exact I.sep _ _ _ _ _ _ b e e' e3 e4 e5 e6
  · rcases key e1 with rfl | e
    · simp [ownB] at e3
    · exact I.out _ _ _ b e e2 e3

/-- A row of one's own as a datum that is never written: its block is in S from now on. -/
theorem row_datum {S : BSet} {w : World} {E : TypeId} {e : Ty} {l : List e.D} {u : Value} {xs : List Value} (ho : w.ownsRow 0 E e.size u l.length xs) (hl : RepL (Rep S w e) l xs)
    (hs : ∀ b, u.ownBlock = some b → S b) : Rep S w (.slice E e) l [u] := by
  simp only [Rep]
  rcases ho.2 with ⟨rfl, hn⟩ | ⟨g, cap, cur, rfl, _, hh, hnc, hcm, hcs, ht⟩
  · exact ⟨none, 0, by rw [hn], by omega, .inl (List.eq_nil_of_length_eq_zero hn)⟩
  · refine ⟨some ⟨g, 0, none⟩, cap, rfl, hnc, .inr ⟨_, xs, rfl, hs g rfl, hl, fun j v hj => ?_⟩⟩
    exact ho.cells (g := g) rfl j v hj

theorem headS_own {w : World} {E : TypeId} {k : Nat} {u : Value} {n : Nat} {xs : List Value} (ho : w.ownsRow 0 E k u n xs) : headS u := by
  rcases ho.2 with ⟨rfl, hn⟩ | ⟨g, cap, cur, rfl, _, hh, hnc, hcm, hcs, ht⟩
  · exact ⟨none, 0, 0, rfl, Nat.le_refl _, .inl rfl⟩
  · exact ⟨_, _, _, rfl, hnc, .inr ⟨g, rfl⟩⟩

/-- A row is frozen. -/
theorem Inv.freeze {B : Base} {μ : Hd} {S : BSet} {w : World} {h : Hp} (I : Inv B μ S w h) {o : Nat} {E : TypeId} {e : Ty} {l : List e.D} (h1 : h[o]? = some (.row E e l)) :
    ∃ S', Inv B μ S' w (h.set o (.fro E e l)) ∧ Keeps S S' w w ∧ (∀ u b, μ o = some u → u.ownBlock = some b → S' b) ∧ ∀ b, S' b → S b ∨ ∃ u, μ o = some u ∧ ownB (.row E e l) u = some b := by
  have ho : o < h.length := by obtain ⟨h, _⟩ := List.getElem?_eq_some_iff.1 h1; exact h
  obtain ⟨u, h2⟩ : ∃ u, μ o = some u := I.dom o _ h1 (by simp)
  have hr := I.obj o _ u h1 h2
  obtain ⟨xs, hw, hl⟩ := hr
  have hob : ownB (.row E e l) u = u.ownBlock := ownsRow_owner hw e l
  let S' : BSet := fun b => S b ∨ u.ownBlock = some b
  have hk : Keeps S S' w w := ⟨fun b hb => .inl hb, fun _ _ => rfl⟩
  refine ⟨S', ⟨I.base, I.dom_set (fun _ => ⟨u, h2⟩), fun o' ho' => I.fresh o' (by simpa using ho'), fun o' ob1 u1 e1 e2 => ?_, fun o1 o2 ob1 ob2 u1 u2 b e1 e2 e3 e4 e5 e6 => ?_, fun o1 ob1 u1 b e1 e2 e3 => ?_, fun b hb => ?_, fun b hb => ?_⟩, hk, fun u' b e1 e2 => by rw [h2] at e1; cases e1; exact .inr e2, fun b hb => hb.imp id fun hb => ⟨u, h2, by rw [hob]; exact hb⟩⟩
  · rcases get_set e1 with ⟨rfl, rfl, _⟩ | ⟨hne, e1'⟩
    · rw [h2] at e2; cases e2
      exact ⟨row_datum hw (RepL.mono (fun x c => Rep.keep hk e x c) _ _ hl) fun b hb => .inr hb, headS_own hw⟩
    · exact (I.obj o' ob1 u1 e1' e2).keep (Hd.le.refl _) hk fun _ _ => rfl
  · rcases get_set e1 with ⟨rfl, rfl, _⟩ | ⟨hne, e1'⟩
    · simp [ownB] at e5
    · rcases get_set e2 with ⟨rfl, rfl, _⟩ | ⟨hne2, e2'⟩
      · simp [ownB] at e6
      · exact I.sep _ _ _ _ _ _ b e1' e2' e3 e4 e5 e6
  · rcases get_set e1 with ⟨rfl, rfl, _⟩ | ⟨hne, e1'⟩
    · simp [ownB] at e3
    · refine ⟨?_, (I.out _ _ _ b e1' e2 e3).2⟩
      rintro (hs | hs)
      · exact (I.out _ _ _ b e1' e2 e3).1 hs
      · exact hne (I.sep o1 o ob1 _ u1 u b e1' h1 e2 h2 e3 (by rw [hob]; exact hs))
  · rcases hb with hb | hb
    · exact I.lt b hb
    · exact (hw.lt b hb).2
  · rcases hb with hb | hb
    · exact I.sub b hb
    · exact .inr (I.out o _ u b h1 h2 (by rw [hob]; exact hb)).2

end X
end Go.Proofs.YtjnfmjeiceiciaaGreat

/-
The table of types held against the program's; loads and stores of variables; data out of cells.
-/
namespace Go.Proofs.YtjnfmjeiceiciaaGreat
namespace X
open Go Go.RowKit
set_option linter.unusedVariables false
set_option linter.unusedSimpArgs false

/-! ### The table -/

/-- Zero cells of a type; what follows. -/
def zeroB : Ty → List Value → Option (List Value)
  | .int k, .int k' n :: r => if k = k' ∧ n = 0 then some r else none
  | .bool, .bool b :: r => if b then none else some r
  | .str, .string s :: r => if s.data.toList.isEmpty then some r else none
  | .slice _ _, .slice none 0 0 :: r => some r
  | .unit, r => some r
  | .pair a b, r => match zeroB a r with
    | some r' => zeroB b r'
    | none => none
  | _, _ => none

def infoB (P : Program) (t : Ty) (T : TypeId) : Bool :=
  match P.info? T with
  | some i => i.size == t.size && decide (i.bytes ≤ 4096) && match i.zero with
    | some z => match zeroB t z.cells.toList with
      | some [] => true
      | _ => false
    | none => false
  | none => false

mutual
def tyB (P : Program) : Ty → TypeId → Bool
  | .int k, T => (match P.underlying T with | some (.int k') => k == k' | _ => false) && infoB P (.int k) T
  | .bool, T => (match P.underlying T with | some .bool => true | _ => false) && infoB P .bool T
  | .str, T => (match P.underlying T with | some .string => true | _ => false) && infoB P .str T
  | .slice E e, T => (match P.underlying T with | some (.slice E') => E == E' | _ => false) && infoB P (.slice E e) T && tyB P e E
  | .unit, T => (match P.underlying T with | some (.struct fs) => fs.toList.isEmpty | _ => false) && infoB P .unit T && !P.stoodInHeld T && !P.eqGuardType P.depth T
  | .pair a b, T => (match P.underlying T with
      | some (.struct fs) => (match fs.toList with
        | f :: r => f.offset == 0 && decide (f.name ≠ "_") && tyB P a f.type && decide (a.size ≠ 0) && fldB P b r a.size
        | [] => false)
      | _ => false) && infoB P (.pair a b) T && !P.stoodInHeld T && !P.eqGuardType P.depth T
def fldB (P : Program) : Ty → List Field → Nat → Bool
  | .unit, [], _ => true
  | .pair a b, f :: r, o => f.offset == o && decide (f.name ≠ "_") && tyB P a f.type && decide (a.size ≠ 0) && fldB P b r (o + a.size)
  | _, _, _ => false
end

def tiB (P : Program) (T : TypeId) : TI → Bool
  | .d t => tyB P t T
  | .arr n E e => (match P.underlying T with | some (.array n' E') => n == n' && E == E' | _ => false) && tyB P e E && decide (e.size ≠ 0) && decide (2 ≤ n) &&
      (match P.info? T with
        | some i => i.size == n * e.size && (match i.zero with
          | some z => (match z with | .agg _ => true | _ => false) && z.cells.toList.length == n * e.size && (List.range n).all fun j => match zeroB e ((z.cells.toList.drop (j * e.size)).take e.size) with | some [] => true | _ => false
          | none => false)
        | none => false)
  | .one => (match P.underlying T with
      | some (.struct _) | some (.array _ _) | none => false
      | _ => true) && (match P.info? T with | some i => i.size == 1 | none => false)
  | .bad => true

def tabB (P : Program) (tt : TypeId → TI) (n : Nat) : Bool := (List.range n).all fun T => tiB P T (tt T)

/-- The table fits the program. -/
def TabOK (P : Program) (tt : TypeId → TI) : Prop := ∀ T, tiB P T (tt T) = true

theorem TabOK.of {P : Program} {l : List TI} {n : Nat} (hn : l.length = n) (h : tabB P (fun T => l.getD T .bad) n = true) : TabOK P (fun T => l.getD T .bad) := by
  intro T
  by_cases hT : T < n
  · exact List.all_eq_true.1 h T (List.mem_range.2 hT)
  · have hT' : l.length ≤ T := by rw [hn]; exact Nat.le_of_not_lt hT
    have : l.getD T .bad = .bad := by rw [List.getD_eq_getElem?_getD, List.getElem?_eq_none hT']; rfl
    simp only [this]; rfl

theorem infoB_spec {P : Program} {t : Ty} {T : TypeId} (h : infoB P t T = true) : ∃ i z, P.info? T = some i ∧ i.size = t.size ∧ i.bytes ≤ 4096 ∧ i.zero = some z ∧ zeroB t z.cells.toList = some [] := by
  unfold infoB at h
  split at h
  · rename_i i hi
    simp only [Bool.and_eq_true, beq_iff_eq, decide_eq_true_eq] at h
    obtain ⟨⟨h1, h2⟩, h3⟩ := h
    split at h3
    · rename_i z hz
      split at h3
      · rename_i hz'; exact ⟨i, z, hi, h1, h2, hz, hz'⟩
      · cases h3
    · cases h3
  · cases h

theorem tyB_info {P : Program} : ∀ {t : Ty} {T : TypeId}, tyB P t T = true → infoB P t T = true := by
  intro t T h
  cases t <;> simp only [tyB, Bool.and_eq_true] at h <;> simp_all

/-- A struct or an array? -/
def rowB : TypeDesc → Bool
  | .struct _ | .array _ _ => true
  | _ => false

theorem tyB_row {P : Program} {t : Ty} {T : TypeId} (h : tyB P t T = true) : ∃ d, P.underlying T = some d ∧ rowB d = t.isAgg := by
  cases t with
  | int k =>
    simp only [tyB, Bool.and_eq_true] at h
    have h1 := h.1
    split at h1
    · rename_i k' hu; exact ⟨_, hu, rfl⟩
    · cases h1
  | bool =>
    simp only [tyB, Bool.and_eq_true] at h
    have h1 := h.1
    split at h1
    · rename_i hu; exact ⟨_, hu, rfl⟩
    · cases h1
  | str =>
    simp only [tyB, Bool.and_eq_true] at h
    have h1 := h.1
    split at h1
    · rename_i hu; exact ⟨_, hu, rfl⟩
    · cases h1
  | unit =>
    simp only [tyB, Bool.and_eq_true] at h
    have h1 := h.1.1.1
    split at h1
    · rename_i hu; exact ⟨_, hu, rfl⟩
    · cases h1
  | slice E e =>
    simp only [tyB, Bool.and_eq_true] at h
    have h1 := h.1.1
    split at h1
    · rename_i hu; exact ⟨_, hu, rfl⟩
    · cases h1
  | pair a b =>
    simp only [tyB, Bool.and_eq_true] at h
    have h1 := h.1.1.1
    split at h1
    · rename_i hu; exact ⟨_, hu, rfl⟩
    · cases h1

theorem tyB_slice {P : Program} {E : TypeId} {e : Ty} {T : TypeId} (h : tyB P (.slice E e) T = true) : P.underlying T = some (.slice E) ∧ tyB P e E = true := by
  simp only [tyB, Bool.and_eq_true] at h
  have h1 := h.1.1
  split at h1
  · rename_i E' hu
    rw [beq_iff_eq] at h1
    exact ⟨by rw [hu, h1], h.2⟩
  · cases h1

theorem tyB_elem {P : Program} {E : TypeId} {e : Ty} (h : tyB P e E = true) : ∃ i z, P.info? E = some i ∧ i.size = e.size ∧ i.bytes ≤ 4096 ∧ i.zero = some z ∧ zeroB e z.cells.toList = some [] :=
  infoB_spec (tyB_info h)

theorem TabOK.d {P : Program} {tt : TypeId → TI} (h : TabOK P tt) {T : TypeId} {t : Ty} (e : tt T = .d t) : tyB P t T = true := by
  have := h T; rw [e] at this; exact this

/-- Zero cells hold the zero datum. -/
theorem zeroB_rep {S : BSet} {w : World} : ∀ (t : Ty) (cs r : List Value), zeroB t cs = some r → ∃ c, cs = c ++ r ∧ Rep S w t t.zero c
  | .int k, cs, r, h => by
    cases cs with
    | nil => simp [zeroB] at h
    | cons v cs =>
      cases v <;> simp [zeroB] at h
      obtain ⟨⟨rfl, rfl⟩, rfl⟩ := h
      exact ⟨[.int k 0], rfl, rfl⟩
  | .bool, cs, r, h => by
    cases cs with
    | nil => simp [zeroB] at h
    | cons v cs =>
      cases v <;> simp [zeroB] at h
      obtain ⟨rfl, rfl⟩ := h
      exact ⟨[.bool false], rfl, rfl⟩
  | .str, cs, r, h => by
    cases cs with
    | nil => simp [zeroB] at h
    | cons v cs =>
      cases v <;> simp [zeroB] at h
      rename_i s
      obtain ⟨hs, rfl⟩ := h
      refine ⟨[.string s], rfl, ?_⟩
      have : s = ⟨#[]⟩ := by obtain ⟨d⟩ := s; simp at hs; simp [hs]
      subst this; rfl
  | .unit, cs, r, h => by simp [zeroB] at h; exact ⟨[], by simp [h], rfl⟩
  | .slice E e, cs, r, h => by
    cases cs with
    | nil => simp [zeroB] at h
    | cons v cs =>
      cases v <;> first | (simp [zeroB] at h; done) | skip
      rename_i a n c
      cases a <;> cases n <;> cases c <;> first | (simp [zeroB] at h; done) | skip
      simp only [zeroB, Option.some.injEq] at h
      subst h
      exact ⟨[.slice none 0 0], rfl, none, 0, rfl, Nat.le_refl _, .inl rfl⟩
  | .pair a b, cs, r, h => by
    simp only [zeroB] at h
    split at h
    · rename_i r' h1
      obtain ⟨c1, rfl, h2⟩ := zeroB_rep a cs r' h1
      obtain ⟨c2, rfl, h3⟩ := zeroB_rep b r' r h
      exact ⟨c1 ++ c2, by simp, c1, c2, rfl, h2, h3⟩
    · cases h

theorem zeroB_vrep {μ : Hd} {S : BSet} {w : World} : ∀ (t : Ty) (cs r : List Value), zeroB t cs = some r → ∃ c, cs = c ++ r ∧ VRepL μ S w (zeroL t) c
  | .int k, cs, r, h => by
    obtain ⟨c, h1, h2⟩ := zeroB_rep (S := S) (w := w) _ cs r h
    exact ⟨c, h1, VRepL.explode (.int k) _ c h2⟩
  | .bool, cs, r, h => by
    obtain ⟨c, h1, h2⟩ := zeroB_rep (S := S) (w := w) _ cs r h
    exact ⟨c, h1, VRepL.explode .bool _ c h2⟩
  | .str, cs, r, h => by
    obtain ⟨c, h1, h2⟩ := zeroB_rep (S := S) (w := w) _ cs r h
    exact ⟨c, h1, VRepL.explode .str _ c h2⟩
  | .unit, cs, r, h => by simp [zeroB] at h; exact ⟨[], by simp [h], by simp [zeroL, VRepL]⟩
  | .slice E e, cs, r, h => by
    cases cs with
    | nil => simp [zeroB] at h
    | cons v cs =>
      cases v <;> first | (simp [zeroB] at h; done) | skip
      rename_i a n c
      cases a <;> cases n <;> cases c <;> first | (simp [zeroB] at h; done) | skip
      simp only [zeroB, Option.some.injEq] at h
      subst h
      exact ⟨[.slice none 0 0], rfl, by simp [zeroL, VRepL, VRep]⟩
  | .pair a b, cs, r, h => by
    simp only [zeroB] at h
    split at h
    · rename_i r' h1
      obtain ⟨c1, rfl, h2⟩ := zeroB_vrep a cs r' h1
      obtain ⟨c2, rfl, h3⟩ := zeroB_vrep b r' r h
      exact ⟨c1 ++ c2, by simp, by simp only [zeroL]; exact VRepL.app _ _ _ _ h2 h3⟩
    · cases h

/-! ### Loads and stores -/

theorem add_lit (b o j : Nat) : (⟨b, o, none⟩ : Addr).add j = ⟨b, o + j, none⟩ := by unfold Addr.add; split <;> simp_all

theorem run_isAgg {P : Program} {T : TypeId} {d : TypeDesc} (w : World) (hu : P.underlying T = some d) : (isAgg T).run P w = .ok (rowB d) w := by
  unfold isAgg
  rw [Sem.run_bind, run_underlying hu w]
  cases d <;> simp_all [rowB]

theorem run_size {P : Program} {T : TypeId} {i : TypeInfo} (w : World) (hi : P.info? T = some i) : (sizeOf T).run P w = .ok i.size w := by
  simp [sizeOf, typeInfo, hi]

/-- A variable is read. -/
theorem run_loadVar_d {P : Program} {T : TypeId} {t : Ty} (h : tyB P t T = true) {w : World} {ad : Addr} {cs : List Value} (hl : cs.length = t.size) (hc : ∀ j u, cs[j]? = some u → w.cell? (ad.add j) = some u) :
    (loadVar T ad).run P w = .ok (mkV t cs) w := by
  obtain ⟨d, hu, hd⟩ := tyB_row h
  obtain ⟨i, z, hi, hs, _⟩ := infoB_spec (tyB_info h)
  unfold loadVar
  rw [Sem.run_bind, run_isAgg w hu, Result.andThen_ok, hd]
  unfold mkV
  cases hag : t.isAgg with
  | true =>
    have := run_loadCells_list (P := P) w ad cs hc
    simp [Sem.run_bind, run_size w hi, hs, ← hl, this]
  | false =>
    have h1 : t.size = 1 := by cases t <;> simp_all [Ty.isAgg, Ty.size]
    obtain ⟨v, rfl⟩ : ∃ v, cs = [v] := by
      cases cs with
      | nil => simp [h1] at hl
      | cons v r => cases r with
        | nil => exact ⟨v, rfl⟩
        | cons _ _ => simp [h1] at hl
    have := hc 0 v rfl
    simp [Addr.add] at this
    simp [this]

theorem run_loadAt_d {P : Program} {T : TypeId} {t : Ty} (h : tyB P t T = true) {w : World} {ad : Addr} {cs : List Value} (hl : cs.length = t.size) (hc : ∀ j u, cs[j]? = some u → w.cell? (ad.add j) = some u) :
    (Instr.loadAt T (.pointer (some ad))).run P w = .ok (mkV t cs) w := by
  simp only [Instr.loadAt, Instr.sureAddr, Sem.run_bind, Sem.run_pure, Result.andThen_ok, run_loadVar_d h hl hc]

theorem run_loadAt_one {P : Program} {T : TypeId} (h : tiB P T .one = true) {w : World} {ad : Addr} {v : Value} (hc : w.cell? ad = some v) :
    (Instr.loadAt T (.pointer (some ad))).run P w = .ok v w := by
  simp only [tiB, Bool.and_eq_true] at h
  have h1 := h.1
  have : ∃ d, P.underlying T = some d ∧ rowB d = false := by
    split at h1
    · cases h1
    · cases h1
    · cases h1
    · rename_i x _ _ _
      cases hx : P.underlying T with
      | none => simp_all
      | some d => refine ⟨d, rfl, ?_⟩; cases d <;> simp_all [rowB]
  obtain ⟨d, hu, hd⟩ := this
  simp only [Instr.loadAt, Instr.sureAddr, Sem.run_bind, Sem.run_pure, Result.andThen_ok, loadVar, run_isAgg w hu, hd]
  simp [hc]

/-- A variable is written: the cells from an offset on of a block that may be written. -/
theorem run_storeAt_at {P : Program} {T : TypeId} {i : TypeInfo} (hi : P.info? T = some i) {w : World} {g o : Nat} {u : Value} {cur : Array Value} {ET : TypeId} (hg : w.heap[g]? = some (.cells cur ET (0, 0)))
    (hs : u.cells.size = i.size) (hl : o + u.cells.size ≤ cur.size) (h1 : ∀ x ∈ u.cells.toList, x.oneCell' = true) :
    (Instr.storeAt T (.pointer (some ⟨g, o, none⟩)) u).run P w = .ok () (w.setRow g (cur.toList.take o ++ u.cells.toList ++ cur.toList.drop (o + u.cells.size)).toArray) := by
  have := run_storeCells_at P g o ET u.cells.toList 0 cur w hg (by simpa using hl) h1
  simp only [Nat.add_zero, Array.length_toList] at this
  simp [Instr.storeAt, Instr.sureAddr, storeVar, run_size w hi, hs, this]

/-! ### Data out of cells -/

/-- What a value must be for a row to be read out of it: its element size is told by the heap. -/
theorem rowOf_rep {B : Base} {μ : Hd} {S : BSet} {w : World} {h : Hp} (I : Inv B μ S w h) {e : Ty} {v : V} {l : List e.D} (hr : rowOf h e v = some l) {u : Value} (hv : VRep μ S w v u) :
    ∃ a n c xs, u = .slice a n c ∧ n = l.length ∧ n ≤ c ∧ RepL (Rep S w e) l xs ∧ (l = [] ∨ ∃ ad, a = some ad ∧ (∀ j x, xs[j]? = some x → w.cell? (ad.add j) = some x) ∧ ad.block < w.heap.size ∧
      (S ad.block ∨ ∃ o E t lt uo, (v = .row o ∨ ∃ e lo hi, v = .sub o e lo hi) ∧ h[o]? = some (.row E t lt) ∧ μ o = some uo ∧ uo.ownBlock = some ad.block)) := by
  have rows : ∀ {o : Nat} {E : TypeId} {t : Ty} {lt : List t.D} {uo : Value}, (h[o]? = some (.row E t lt) ∨ h[o]? = some (.fro E t lt)) → μ o = some uo →
      ∃ a n c xs, uo = .slice a n c ∧ n = lt.length ∧ n ≤ c ∧ (a = none ∨ ∃ g, a = some ⟨g, 0, none⟩) ∧ RepL (Rep S w t) lt xs ∧ (lt = [] ∨ ∃ ad, a = some ad ∧ (∀ j x, xs[j]? = some x → w.cell? (ad.add j) = some x) ∧ ad.block < w.heap.size ∧ (S ad.block ∨ (h[o]? = some (.row E t lt) ∧ uo.ownBlock = some ad.block))) := by
    intro o E t lt uo ho hm
    rcases ho with ho | ho
    · obtain ⟨xs, hw, hl⟩ := I.obj o _ uo ho hm
      rcases hw.2 with ⟨rfl, hn⟩ | ⟨g, cap, cur, rfl, _, hh, hnc, _⟩
      · exact ⟨none, 0, 0, xs, rfl, hn.symm, Nat.le_refl _, .inl rfl, hl, .inl (List.eq_nil_of_length_eq_zero hn)⟩
      · exact ⟨_, _, cap, xs, rfl, rfl, hnc, .inr ⟨g, rfl⟩, hl, .inr ⟨_, rfl, hw.cells (g := g) rfl, (hw.lt g rfl).2, .inr ⟨ho, rfl⟩⟩⟩
    · obtain ⟨hrep, a, n, c, rfl, hnc, ha⟩ := I.obj o _ uo ho hm
      simp only [Rep] at hrep
      obtain ⟨a', c', he, hle, hh⟩ := hrep
      simp at he
      obtain ⟨rfl, rfl, rfl⟩ := he
      rcases hh with hh | ⟨ad, xs, rfl, hs, hl, hc⟩
      · exact ⟨a, _, c, [], rfl, rfl, hnc, ha, by simp [hh, RepL], .inl hh⟩
      · exact ⟨_, _, c, xs, rfl, rfl, hnc, ha, hl, .inr ⟨ad, rfl, hc, I.lt _ hs, .inl hs⟩⟩
  cases v with
  | nils =>
    simp only [rowOf] at hr; cases hr
    simp only [VRep] at hv; subst hv
    exact ⟨none, 0, 0, [], rfl, rfl, Nat.le_refl _, by simp [RepL], .inl rfl⟩
  | dat t x =>
    cases t with
    | slice E t =>
      simp only [rowOf] at hr
      split at hr
      · rename_i hte
        subst hte
        cases hr
        simp only [VRep, Rep] at hv
        obtain ⟨cs, ⟨a, c, rfl, hle, hh⟩, rfl⟩ := hv
        rcases hh with hh | ⟨ad, xs, rfl, hs, hl, hc⟩
        · exact ⟨a, _, c, [], by simp [mkV, Ty.isAgg], rfl, hle, by simp [hh, RepL], .inl hh⟩
        · exact ⟨_, _, c, xs, by simp [mkV, Ty.isAgg], rfl, hle, hl, .inr ⟨ad, rfl, hc, I.lt _ hs, .inl hs⟩⟩
      · cases hr
    | _ => simp [rowOf] at hr
  | row o =>
    simp only [VRep] at hv
    simp only [rowOf] at hr
    split at hr
    · rename_i E t lt ho
      split at hr
      · rename_i hte; subst hte; cases hr
        obtain ⟨a, n, c, xs, h1, h2, h3, _, h4, h5⟩ := rows (.inl ho) hv.1
        refine ⟨a, n, c, xs, h1, h2, h3, h4, h5.imp id ?_⟩
        rintro ⟨ad, e1, e2, e3, e4⟩
        exact ⟨ad, e1, e2, e3, e4.imp id fun ⟨f1, f2⟩ => ⟨o, E, t, lt, u, .inl rfl, f1, hv.1, f2⟩⟩
      · cases hr
    · rename_i E t lt ho
      split at hr
      · rename_i hte; subst hte; cases hr
        obtain ⟨a, n, c, xs, h1, h2, h3, _, h4, h5⟩ := rows (.inr ho) hv.1
        refine ⟨a, n, c, xs, h1, h2, h3, h4, h5.imp id ?_⟩
        rintro ⟨ad, e1, e2, e3, e4⟩
        exact ⟨ad, e1, e2, e3, e4.imp id fun ⟨f1, f2⟩ => ⟨o, E, t, lt, u, .inl rfl, f1, hv.1, f2⟩⟩
      · cases hr
    · cases hr
  | sub o eo lo hi =>
    simp only [VRep] at hv
    obtain ⟨a0, n0, c0, p0, hm, ha0, hlo, hlh, hhi, hnc0, rfl, hp0, hp1⟩ := hv
    simp only [rowOf] at hr
    have fin : ∀ {E : TypeId} {t : Ty} {lt : List t.D}, (h[o]? = some (.row E t lt) ∨ h[o]? = some (.fro E t lt)) → eo = t →
        ∃ a n c xs, (Value.slice p0 (hi.toNat - lo.toNat) (c0 - lo.toNat)) = .slice a n c ∧ n = ((lt.take hi.toNat).drop lo.toNat).length ∧ n ≤ c ∧
          RepL (Rep S w t) ((lt.take hi.toNat).drop lo.toNat) xs ∧ ((lt.take hi.toNat).drop lo.toNat = [] ∨ ∃ ad, a = some ad ∧ (∀ j x, xs[j]? = some x → w.cell? (ad.add j) = some x) ∧ ad.block < w.heap.size ∧
            (S ad.block ∨ ∃ o' E t lt uo, (V.sub o eo lo hi = .row o' ∨ ∃ e lo' hi', V.sub o eo lo hi = .sub o' e lo' hi') ∧ h[o']? = some (.row E t lt) ∧ μ o' = some uo ∧ uo.ownBlock = some ad.block)) := by
      intro E t lt ho he
      subst he
      obtain ⟨a, n, c, xs, h1, h2, h3, h3', h4, h5⟩ := rows ho hm
      cases h1
      have hlen : ((lt.take hi.toNat).drop lo.toNat).length = hi.toNat - lo.toNat := by simp; omega
      have hk := fun x c (hx : Rep S w eo x c) => Rep.len eo x c hx
      refine ⟨_, _, _, (xs.take (hi.toNat * eo.size)).drop (lo.toNat * eo.size), rfl, hlen.symm, by omega, RepL.drop hk _ _ _ (RepL.take hk _ _ _ h4), ?_⟩
      by_cases hz : hi.toNat - lo.toNat = 0
      · exact .inl (List.eq_nil_of_length_eq_zero (by omega))
      · rcases h5 with h5 | ⟨ad, rfl, hc, hlt, hS⟩
        · left; simp [h5]
        · right
          obtain ⟨g, hg⟩ := h3'.resolve_left (by simp)
          cases hg
          refine ⟨⟨g, lo.toNat * eo.size, none⟩, by rw [hp0 (by omega)]; simp [add_lit], fun j x hj => ?_, hlt, hS.imp id fun ⟨f1, f2⟩ => ⟨o, E, eo, lt, _, .inr ⟨_, _, _, rfl⟩, f1, hm, f2⟩⟩
          rw [add_lit]
          rw [List.getElem?_drop] at hj
          have hj2 : xs[lo.toNat * eo.size + j]? = some x := by
            rw [List.getElem?_take] at hj
            split at hj
            · exact hj
            · cases hj
          have := hc _ x hj2
          rw [add_lit] at this
          simpa using this
    split at hr
    · rename_i E t lt ho
      split at hr
      · rename_i hte
        split at hr
        · rename_i hut
          subst hte; cases hr
          exact fin (.inl ho) hut
        · cases hr
      · cases hr
    · rename_i E t lt ho
      split at hr
      · rename_i hte
        split at hr
        · rename_i hut
          subst hte; cases hr
          exact fin (.inr ho) hut
        · cases hr
      · cases hr
    · cases hr
  | _ => simp [rowOf] at hr

end X
end Go.Proofs.YtjnfmjeiceiciaaGreat

/-
Data out of values: borrowed, or with their rows frozen.
-/
namespace Go.Proofs.YtjnfmjeiceiciaaGreat
namespace X
open Go Go.RowKit
set_option linter.unusedVariables false
set_option linter.unusedSimpArgs false
set_option linter.unnecessarySimpa false

/-- All blocks that are there. -/
def ltS (w : World) : BSet := fun b => b < w.heap.size

theorem Inv.toLt {B : Base} {μ : Hd} {S : BSet} {w : World} {h : Hp} (I : Inv B μ S w h) : Keeps S (ltS w) w w := ⟨fun b hb => I.lt b hb, fun _ _ => rfl⟩

/-- Blocks that objects may write. -/
def Own (μ : Hd) (h : Hp) (b : Nat) : Prop := ∃ o ob u, h[o]? = some ob ∧ μ o = some u ∧ ownB ob u = some b

/-- Objects were frozen or given up. -/
structure Fz (μ : Hd) (w : World) (S : BSet) (h : Hp) (S' : BSet) (h' : Hp) : Prop where
  keep : Keeps S S' w w
  s : ∀ b, S' b → S b ∨ Own μ h b
  own : ∀ b, Own μ h' b → Own μ h b
  dead : ∀ o : Nat, h[o]? = some .dead → h'[o]? = some .dead
  len : h'.length = h.length

theorem Fz.refl (μ : Hd) (w : World) (S : BSet) (h : Hp) : Fz μ w S h S h := ⟨Keeps.refl S w, fun _ h => .inl h, fun _ h => h, fun _ h => h, rfl⟩
theorem Fz.trans {μ : Hd} {w : World} {S S' S'' : BSet} {h h' h'' : Hp} (a : Fz μ w S h S' h') (b : Fz μ w S' h' S'' h'') : Fz μ w S h S'' h'' :=
  ⟨a.keep.trans b.keep, fun x hx => (b.s x hx).elim (a.s x) fun y => .inr (a.own x y), fun x hx => a.own x (b.own x hx), fun o ho => b.dead o (a.dead o ho), b.len.trans a.len⟩

theorem Fz.set {μ : Hd} {w : World} {S S' : BSet} {h : Hp} {o : Nat} {ob ob' : Ob} (hk : Keeps S S' w w) (ho : h[o]? = some ob) (hnd : ob ≠ .dead ∨ ob' = .dead) (hn : ∀ u, ownB ob' u = none) (hs : ∀ b, S' b → S b ∨ ∃ u, μ o = some u ∧ ownB ob u = some b) : Fz μ w S h S' (h.set o ob') where
  keep := hk
  s b hb := (hs b hb).imp id fun ⟨u, h1, h2⟩ => ⟨o, ob, u, ho, h1, h2⟩
  own b := by
    rintro ⟨i, x, u, h1, h2, h3⟩
    rcases get_set h1 with ⟨rfl, rfl, _⟩ | ⟨_, h1'⟩
    · rw [hn u] at h3; cases h3
    · exact ⟨i, x, u, h1', h2, h3⟩
  dead i hi := by
    rw [List.getElem?_set]
    split
    · rename_i e; subst e
      rw [ho] at hi; cases hi
      rcases hnd with h | h
      · exact absurd rfl h
      · subst h
        rw [if_pos (by obtain ⟨h, _⟩ := List.getElem?_eq_some_iff.1 ho; exact h)]
    · exact hi
  len := by simp

theorem freeze_inv {B : Base} {μ : Hd} {S : BSet} {w : World} {h : Hp} (I : Inv B μ S w h) (v : V) :
    ∃ S', Inv B μ S' w (freeze h v) ∧ Fz μ w S h S' (freeze h v) ∧
      ∀ (o : Nat) (E : TypeId) (t : Ty) (lt : List t.D) (uo : Value) (b : Nat), (v = .row o ∨ ∃ e lo hi, v = .sub o e lo hi) → h[o]? = some (.row E t lt) → μ o = some uo → uo.ownBlock = some b → S' b := by
  have key : ∀ o : Nat, (match h[o]? with | some (.row E t l) => h.set o (.fro E t l) | _ => h) = freeze h (.row o) := fun o => rfl
  have fz : ∀ o : Nat, ∃ S', Inv B μ S' w (freeze h (.row o)) ∧ Fz μ w S h S' (freeze h (.row o)) ∧
      ∀ (E : TypeId) (t : Ty) (lt : List t.D) (uo : Value) (b : Nat), h[o]? = some (.row E t lt) → μ o = some uo → uo.ownBlock = some b → S' b := by
    intro o
    show ∃ S', Inv B μ S' w (match h[o]? with | some (.row E t l) => h.set o (.fro E t l) | _ => h) ∧ Fz μ w S h S' (match h[o]? with | some (.row E t l) => h.set o (.fro E t l) | _ => h) ∧ _
    split
    · rename_i E t l ho
      obtain ⟨S', h1, h2, h3, h4⟩ := I.freeze ho
      exact ⟨S', h1, Fz.set h2 ho (.inl (by simp)) (fun u => by simp [ownB]) h4, fun _ _ _ uo b _ e1 e2 => h3 uo b e1 e2⟩
    · rename_i hne
      refine ⟨S, I, Fz.refl μ w S h, fun E t lt uo b e1 _ _ => ?_⟩
      exact absurd e1 (hne E t lt)
  cases v with
  | row o =>
    obtain ⟨S', h1, h2, h3⟩ := fz o
    refine ⟨S', h1, h2, fun o' E t lt uo b e => ?_⟩
    rcases e with e | ⟨_, _, _, e⟩
    · cases e; exact h3 E t lt uo b
    · cases e
  | sub o e lo hi =>
    obtain ⟨S', h1, h2, h3⟩ := fz o
    refine ⟨S', h1, h2, fun o' E t lt uo b e => ?_⟩
    rcases e with e | ⟨_, _, _, e⟩
    · cases e
    · cases e; exact h3 E t lt uo b
  | _ =>
    refine ⟨S, I, Fz.refl μ w S h, fun o' E t lt uo b e => ?_⟩
    rcases e with e | ⟨_, _, _, e⟩ <;> cases e

/-- A row handed out: frozen, it is a datum. -/
theorem rowOf_froze {B : Base} {μ : Hd} {S : BSet} {w : World} {h : Hp} (I : Inv B μ S w h) {E : TypeId} {e : Ty} {v : V} {l : List e.D} (hr : rowOf h e v = some l) {u : Value} (hv : VRep μ S w v u) :
    ∃ S', Inv B μ S' w (freeze h v) ∧ Fz μ w S h S' (freeze h v) ∧ Rep S' w (.slice E e) l [u] := by
  obtain ⟨S', h1, h2, h3⟩ := freeze_inv I v
  obtain ⟨a, n, c, xs, rfl, rfl, hnc, hl, hc⟩ := rowOf_rep I hr hv
  refine ⟨S', h1, h2, ?_⟩
  simp only [Rep]
  refine ⟨a, c, rfl, hnc, hc.imp id ?_⟩
  rintro ⟨ad, rfl, hcell, _, hS⟩
  refine ⟨ad, xs, rfl, ?_, RepL.mono (fun x c => Rep.keep h2.keep e x c) _ _ hl, hcell⟩
  rcases hS with hS | ⟨o, E', t, lt, uo, f1, f2, f3, f4⟩
  · exact h2.keep.sub _ hS
  · exact h3 o E' t lt uo _ f1 f2 f3 f4

/-- A row borrowed. -/
theorem rowOf_borrow {B : Base} {μ : Hd} {S : BSet} {w : World} {h : Hp} (I : Inv B μ S w h) {E : TypeId} {e : Ty} {v : V} {l : List e.D} (hr : rowOf h e v = some l) {u : Value} (hv : VRep μ S w v u) :
    Rep (ltS w) w (.slice E e) l [u] := by
  obtain ⟨a, n, c, xs, rfl, rfl, hnc, hl, hc⟩ := rowOf_rep I hr hv
  simp only [Rep]
  refine ⟨a, c, rfl, hnc, hc.imp id ?_⟩
  rintro ⟨ad, rfl, hcell, hlt, _⟩
  exact ⟨ad, xs, rfl, hlt, RepL.mono (fun x c => Rep.keep I.toLt e x c) _ _ hl, hcell⟩

theorem implode_borrow {B : Base} {μ : Hd} {S : BSet} {w : World} {h : Hp} (I : Inv B μ S w h) : ∀ (t : Ty) (vs : List V) (us : List Value) (x : t.D) (vs' : List V) (h' : Hp),
    VRepL μ S w vs us → implode false t vs h = some (x, vs', h') → h' = h ∧ ∃ cs us', us = cs ++ us' ∧ Rep (ltS w) w t x cs ∧ VRepL μ S w vs' us'
  | .unit, vs, us, x, vs', h', hv, hi => by
    simp only [implode, Option.some.injEq, Prod.mk.injEq] at hi
    obtain ⟨_, rfl, rfl⟩ := hi
    exact ⟨rfl, [], us, rfl, rfl, hv⟩
  | .pair a b, vs, us, x, vs', h', hv, hi => by
    simp only [implode] at hi
    split at hi
    · rename_i x1 vs1 h1 e1
      obtain ⟨rfl, c1, us1, rfl, r1, v1⟩ := implode_borrow I a vs us x1 vs1 h1 hv e1
      split at hi
      · rename_i x2 vs2 h2 e2
        obtain ⟨rfl, c2, us2, rfl, r2, v2⟩ := implode_borrow I b vs1 us1 x2 vs2 h2 v1 e2
        simp only [Option.some.injEq, Prod.mk.injEq] at hi
        obtain ⟨rfl, rfl, rfl⟩ := hi
        exact ⟨rfl, c1 ++ c2, us2, by simp, ⟨c1, c2, rfl, r1, r2⟩, v2⟩
      · cases hi
    · cases hi
  | .slice E e, vs, us, x, vs', h', hv, hi => by
    cases vs with
    | nil => simp [implode] at hi
    | cons v vs =>
      simp only [implode] at hi
      split at hi
      · rename_i l hl
        simp only [Option.some.injEq, Prod.mk.injEq] at hi
        obtain ⟨rfl, rfl, rfl⟩ := hi
        simp only [VRepL] at hv
        obtain ⟨u, r, rfl, h1, h2⟩ := hv
        exact ⟨by simp, [u], r, rfl, rowOf_borrow I hl h1, h2⟩
      · cases hi
  | .int k, vs, us, x, vs', h', hv, hi => by
    cases vs with
    | nil => simp [implode] at hi
    | cons v vs =>
      simp only [VRepL] at hv
      obtain ⟨u, r, rfl, h1, h2⟩ := hv
      cases v with
      | dat t y =>
        cases t with
        | int k' =>
          simp only [implode] at hi
          split at hi
          · rename_i hk; subst hk
            simp only [Option.some.injEq, Prod.mk.injEq] at hi
            obtain ⟨rfl, rfl, rfl⟩ := hi
            simp only [VRep, Rep] at h1
            obtain ⟨cs, rfl, rfl⟩ := h1
            exact ⟨rfl, [_], r, rfl, rfl, h2⟩
          · cases hi
        | _ => simp [implode] at hi
      | _ => simp [implode] at hi
  | .bool, vs, us, x, vs', h', hv, hi => by
    cases vs with
    | nil => simp [implode] at hi
    | cons v vs =>
      simp only [VRepL] at hv
      obtain ⟨u, r, rfl, h1, h2⟩ := hv
      cases v with
      | dat t y =>
        cases t with
        | bool =>
          simp only [implode, Option.some.injEq, Prod.mk.injEq] at hi
          obtain ⟨rfl, rfl, rfl⟩ := hi
          simp only [VRep, Rep] at h1
          obtain ⟨cs, rfl, rfl⟩ := h1
          exact ⟨rfl, [_], r, rfl, rfl, h2⟩
        | _ => simp [implode] at hi
      | kb b =>
        simp only [implode, Option.some.injEq, Prod.mk.injEq] at hi
        obtain ⟨rfl, rfl, rfl⟩ := hi
        simp only [VRep] at h1
        subst h1
        exact ⟨rfl, [_], r, rfl, rfl, h2⟩
      | _ => simp [implode] at hi
  | .str, vs, us, x, vs', h', hv, hi => by
    cases vs with
    | nil => simp [implode] at hi
    | cons v vs =>
      simp only [VRepL] at hv
      obtain ⟨u, r, rfl, h1, h2⟩ := hv
      cases v with
      | dat t y =>
        cases t with
        | str =>
          simp only [implode, Option.some.injEq, Prod.mk.injEq] at hi
          obtain ⟨rfl, rfl, rfl⟩ := hi
          simp only [VRep, Rep] at h1
          obtain ⟨cs, rfl, rfl⟩ := h1
          exact ⟨rfl, [_], r, rfl, rfl, h2⟩
        | _ => simp [implode] at hi
      | _ => simp [implode] at hi

theorem implode_froze {B : Base} {μ : Hd} {w : World} : ∀ (t : Ty) (S : BSet) (h : Hp) (I : Inv B μ S w h) (vs : List V) (us : List Value) (x : t.D) (vs' : List V) (h' : Hp),
    VRepL μ S w vs us → implode true t vs h = some (x, vs', h') → ∃ S' cs us', Inv B μ S' w h' ∧ Fz μ w S h S' h' ∧ us = cs ++ us' ∧ Rep S' w t x cs ∧ VRepL μ S' w vs' us'
  | .unit, S, h, I, vs, us, x, vs', h', hv, hi => by
    simp only [implode, Option.some.injEq, Prod.mk.injEq] at hi
    obtain ⟨_, rfl, rfl⟩ := hi
    exact ⟨S, [], us, I, Fz.refl μ w S h, rfl, rfl, hv⟩
  | .pair a b, S, h, I, vs, us, x, vs', h', hv, hi => by
    simp only [implode] at hi
    split at hi
    · rename_i x1 vs1 h1 e1
      obtain ⟨S1, c1, us1, I1, k1, rfl, r1, v1⟩ := implode_froze a S h I vs us x1 vs1 h1 hv e1
      split at hi
      · rename_i x2 vs2 h2 e2
        obtain ⟨S2, c2, us2, I2, k2, rfl, r2, v2⟩ := implode_froze b S1 h1 I1 vs1 us1 x2 vs2 h2 v1 e2
        simp only [Option.some.injEq, Prod.mk.injEq] at hi
        obtain ⟨rfl, rfl, rfl⟩ := hi
        exact ⟨S2, c1 ++ c2, us2, I2, k1.trans k2, by simp, ⟨c1, c2, rfl, Rep.keep k2.keep a _ _ r1, r2⟩, v2⟩
      · cases hi
    · cases hi
  | .slice E e, S, h, I, vs, us, x, vs', h', hv, hi => by
    cases vs with
    | nil => simp [implode] at hi
    | cons v vs =>
      simp only [implode] at hi
      split at hi
      · rename_i l hl
        simp only [if_true, Option.some.injEq, Prod.mk.injEq] at hi
        obtain ⟨rfl, rfl, rfl⟩ := hi
        simp only [VRepL] at hv
        obtain ⟨u, r, rfl, h1, h2⟩ := hv
        obtain ⟨S', I', k, hr⟩ := rowOf_froze (E := E) I hl h1
        exact ⟨S', [u], r, I', k, rfl, hr, VRepL.keep (Hd.le.refl _) k.keep _ _ h2⟩
      · cases hi
  | .int k, S, h, I, vs, us, x, vs', h', hv, hi => by
    have hi' : implode false (.int k) vs h = some (x, vs', h') := by
      cases vs with
      | nil => simpa [implode] using hi
      | cons v vs => cases v <;> first | exact hi | (rename_i t y; cases t <;> exact hi)
    obtain ⟨rfl, cs, us', e1, r, v'⟩ := implode_borrow I (.int k) vs us x vs' h' hv hi'
    exact ⟨S, cs, us', I, Fz.refl μ w S _, e1, r, v'⟩
  | .bool, S, h, I, vs, us, x, vs', h', hv, hi => by
    have hi' : implode false .bool vs h = some (x, vs', h') := by
      cases vs with
      | nil => simpa [implode] using hi
      | cons v vs => cases v <;> first | exact hi | (rename_i t y; cases t <;> exact hi)
    obtain ⟨rfl, cs, us', e1, r, v'⟩ := implode_borrow I .bool vs us x vs' h' hv hi'
    exact ⟨S, cs, us', I, Fz.refl μ w S _, e1, r, v'⟩
  | .str, S, h, I, vs, us, x, vs', h', hv, hi => by
    have hi' : implode false .str vs h = some (x, vs', h') := by
      cases vs with
      | nil => simpa [implode] using hi
      | cons v vs => cases v <;> first | exact hi | (rename_i t y; cases t <;> exact hi)
    obtain ⟨rfl, cs, us', e1, r, v'⟩ := implode_borrow I .str vs us x vs' h' hv hi'
    exact ⟨S, cs, us', I, Fz.refl μ w S _, e1, r, v'⟩

/-- Nothing in the cells is unknown, if a datum comes out of them. -/
theorem implode_known (fz : Bool) : ∀ (t : Ty) (vs : List V) (h : Hp) (x : t.D) (h' : Hp) (vs' : List V), implode fz t vs h = some (x, vs', h') → (∀ v ∈ vs', v ≠ .undef) → ∀ v ∈ vs, v ≠ .undef
  | .unit, vs, h, x, h', vs', hi, hk => by
    simp only [implode, Option.some.injEq, Prod.mk.injEq] at hi
    obtain ⟨_, rfl, rfl⟩ := hi
    exact hk
  | .pair a b, vs, h, x, h', vs', hi, hk => by
    simp only [implode] at hi
    split at hi
    · rename_i x1 vs1 h1 e1
      split at hi
      · rename_i x2 vs2 h2 e2
        simp only [Option.some.injEq, Prod.mk.injEq] at hi
        obtain ⟨rfl, rfl, rfl⟩ := hi
        exact implode_known fz a vs h x1 h1 vs1 e1 (implode_known fz b vs1 h1 x2 _ _ e2 hk)
      · cases hi
    · cases hi
  | .slice E e, vs, h, x, h', vs', hi, hk => by
    cases vs with
    | nil => simp [implode] at hi
    | cons v vs =>
      simp only [implode] at hi
      split at hi
      · rename_i l hl
        simp only [Option.some.injEq, Prod.mk.injEq] at hi
        obtain ⟨rfl, rfl, rfl⟩ := hi
        intro y hy
        rcases List.mem_cons.1 hy with rfl | hy
        · rintro rfl; simp [rowOf] at hl
        · exact hk y hy
      · cases hi
  | .int k, vs, h, x, h', vs', hi, hk => by
    cases vs with
    | nil => simp [implode] at hi
    | cons v vs =>
      cases v with
      | dat t y =>
        cases t with
        | int k' =>
          simp only [implode] at hi
          split at hi
          · simp only [Option.some.injEq, Prod.mk.injEq] at hi
            obtain ⟨rfl, rfl, rfl⟩ := hi
            intro z hz
            rcases List.mem_cons.1 hz with rfl | hz
            · simp
            · exact hk z hz
          · cases hi
        | _ => simp [implode] at hi
      | _ => simp [implode] at hi
  | .bool, vs, h, x, h', vs', hi, hk => by
    cases vs with
    | nil => simp [implode] at hi
    | cons v vs =>
      cases v with
      | dat t y =>
        cases t with
        | bool =>
          simp only [implode, Option.some.injEq, Prod.mk.injEq] at hi
          obtain ⟨rfl, rfl, rfl⟩ := hi
          intro z hz
          rcases List.mem_cons.1 hz with rfl | hz
          · simp
          · exact hk z hz
        | _ => simp [implode] at hi
      | kb b =>
        simp only [implode, Option.some.injEq, Prod.mk.injEq] at hi
        obtain ⟨rfl, rfl, rfl⟩ := hi
        intro z hz
        rcases List.mem_cons.1 hz with rfl | hz
        · simp
        · exact hk z hz
      | _ => simp [implode] at hi
  | .str, vs, h, x, h', vs', hi, hk => by
    cases vs with
    | nil => simp [implode] at hi
    | cons v vs =>
      cases v with
      | dat t y =>
        cases t with
        | str =>
          simp only [implode, Option.some.injEq, Prod.mk.injEq] at hi
          obtain ⟨rfl, rfl, rfl⟩ := hi
          intro z hz
          rcases List.mem_cons.1 hz with rfl | hz
          · simp
          · exact hk z hz
        | _ => simp [implode] at hi
      | _ => simp [implode] at hi

theorem toD_known {fz : Bool} {t : Ty} {v : V} {h : Hp} {x : t.D} {h' : Hp} (hi : toD fz t v h = some (x, h')) : implode fz t (cellsOf v) h = some (x, [], h') ∧ ∀ y ∈ cellsOf v, y ≠ .undef := by
  unfold toD at hi
  split at hi
  · rename_i x1 h1 e1
    simp only [Option.some.injEq, Prod.mk.injEq] at hi
    obtain ⟨rfl, rfl⟩ := hi
    exact ⟨e1, implode_known fz t _ _ _ _ _ e1 (by simp)⟩
  · cases hi

theorem toD_borrow {B : Base} {μ : Hd} {S : BSet} {w : World} {h : Hp} (I : Inv B μ S w h) {t : Ty} {v : V} {u : Value} {x : t.D} {h' : Hp} (hv : VRep μ S w v u) (hi : toD false t v h = some (x, h')) :
    h' = h ∧ Rep (ltS w) w t x u.cells.toList := by
  obtain ⟨e1, hk⟩ := toD_known hi
  obtain ⟨rfl, cs, us', e2, r, v'⟩ := implode_borrow I t _ _ x [] h' (hv.cells v u (fun hz => hk .undef (by rw [hz]; simp [cellsOf]) rfl)) e1
  simp only [VRepL] at v'
  subst v'
  rw [List.append_nil] at e2
  exact ⟨rfl, by rw [e2]; exact r⟩

theorem toD_froze {B : Base} {μ : Hd} {S : BSet} {w : World} {h : Hp} (I : Inv B μ S w h) {t : Ty} {v : V} {u : Value} {x : t.D} {h' : Hp} (hv : VRep μ S w v u) (hi : toD true t v h = some (x, h')) :
    ∃ S', Inv B μ S' w h' ∧ Fz μ w S h S' h' ∧ Rep S' w t x u.cells.toList := by
  obtain ⟨e1, hk⟩ := toD_known hi
  obtain ⟨S', cs, us', I', k, e2, r, v'⟩ := implode_froze t S h I _ _ x [] h' (hv.cells v u (fun hz => hk .undef (by rw [hz]; simp [cellsOf]) rfl)) e1
  simp only [VRepL] at v'
  subst v'
  rw [List.append_nil] at e2
  exact ⟨S', I', k, by rw [e2]; exact r⟩

end X
end Go.Proofs.YtjnfmjeiceiciaaGreat

/-
Operations that make no block and write nothing: what they yield in the model.
-/
namespace Go.Proofs.YtjnfmjeiceiciaaGreat
namespace X
open Go Go.RowKit
set_option linter.unusedVariables false
set_option linter.unusedSimpArgs false
set_option linter.unnecessarySimpa false
set_option linter.unusedSectionVars false

/-! ### Trees -/

theorem Tr.run_ite {ρ : Type} {c : Bool} {t e : Tr ρ} {r : ρ} (h : (Tr.ite c t e).run = some r) : (c = true ∧ t.run = some r) ∨ (c = false ∧ e.run = some r) := by
  cases c
  · exact .inr ⟨rfl, h⟩
  · exact .inl ⟨rfl, h⟩
theorem Tr.run_bind {ρ α : Type} {x : Option α} {f : α → Tr ρ} {r : ρ} (h : (Tr.bind x f).run = some r) : ∃ a, x = some a ∧ (f a).run = some r := by
  cases x with
  | none => simp [Tr.run] at h
  | some a => exact ⟨a, rfl, h⟩
theorem Tr.run_map {ρ σ : Type} (φ : ρ → σ) : ∀ t : Tr ρ, (t.map φ).run = t.run.map φ
  | .no => rfl
  | .ret a => rfl
  | .ite c t e => by cases c <;> simp [Tr.map, Tr.run, Tr.run_map]
  | .bind x f => by cases x <;> simp [Tr.map, Tr.run, Tr.run_map]
  | .sum p f g => by cases p <;> simp [Tr.map, Tr.run, Tr.run_map]
theorem Tr.run_bnd {ρ σ : Type} (k : ρ → Tr σ) : ∀ t : Tr ρ, (t.bnd k).run = t.run.bind fun x => (k x).run
  | .no => rfl
  | .ret a => rfl
  | .ite c t e => by cases c <;> simp [Tr.bnd, Tr.run, Tr.run_bnd]
  | .bind x f => by cases x <;> simp [Tr.bnd, Tr.run, Tr.run_bnd]
  | .sum p f g => by cases p <;> simp [Tr.bnd, Tr.run, Tr.run_bnd]

/-! ### Operands -/

theorem ofC0_rep {μ : Hd} {S : BSet} {w : World} (v : Value) : VRep μ S w (ofC0 v) v := by
  unfold ofC0
  split <;> simp only [VRep, Rep]
  · exact ⟨_, rfl, rfl⟩
  · refine ⟨_, rfl, ?_⟩
    simp [mkV, Ty.isAgg]
  · simp

theorem ofC0L_rep {μ : Hd} {S : BSet} {w : World} : ∀ l : List Value, VRepL μ S w (l.map ofC0) l
  | [] => by simp [VRepL]
  | v :: l => by simp only [List.map_cons, VRepL]; exact ⟨v, l, rfl, ofC0_rep v, ofC0L_rep l⟩

theorem ofC_rep {μ : Hd} {S : BSet} {w : World} (v : Value) : VRep μ S w (ofC v) v := by
  unfold ofC
  split
  · rename_i cs
    split
    · rename_i hone
      simp only [VRep]
      exact ⟨cs, rfl, ofC0L_rep _, fun x hx => List.all_eq_true.1 hone x hx⟩
    · simp [VRep]
  · exact ofC0_rep v

theorem getV_rep {μ : Hd} {S : BSet} {w : World} {e : Env} {a : Act} (he : VRepL μ S w e a.tmps.toList) (x : Operand) : VRep μ S w (getV e x) (a.eval x) := by
  cases x with
  | tmp t =>
    simp only [getV, Act.eval]
    rw [List.getD_eq_getElem?_getD, Array.getD_eq_getD_getElem?]
    cases h : e[t]? with
    | none => simp [VRep]
    | some v =>
      obtain ⟨u, h1, h2⟩ := VRepL.get e _ he t v h
      simp only [Array.getElem?_toList] at h1
      simp [h1, h2]
  | const v => exact ofC_rep v
  | global g => simp [getV, VRep]
  | func f => simp [getV, Act.eval, VRep, VRepL]

theorem getVs_rep {μ : Hd} {S : BSet} {w : World} {e : Env} {a : Act} (he : VRepL μ S w e a.tmps.toList) : ∀ xs : List Operand, VRepL μ S w (xs.map (getV e)) (xs.map a.eval)
  | [] => by simp [VRepL]
  | x :: xs => by simp only [List.map_cons, VRepL]; exact ⟨_, _, rfl, getV_rep he x, getVs_rep he xs⟩

/-! ### Parts -/

theorem fld1_rep {S : BSet} {w : World} : ∀ (t : Ty) (x : t.D) (i : Nat) (cs : List Value) (u : Ty) (y : u.D), Rep S w t x cs → fld1 t x i = some ⟨u, y⟩ →
    ∃ c1 c c2, cs = c1 ++ c ++ c2 ∧ c1.length = fldOff t i ∧ Rep S w u y c ∧ fldT t i = some u
  | .pair a b, x, 0, cs, u, y, h, e => by
    simp only [fld1, Option.some.injEq] at e
    cases e
    obtain ⟨c1, c2, rfl, h1, h2⟩ := h
    exact ⟨[], c1, c2, by simp, rfl, h1, rfl⟩
  | .pair a b, x, i + 1, cs, u, y, h, e => by
    simp only [fld1] at e
    obtain ⟨c1, c2, rfl, h1, h2⟩ := h
    obtain ⟨d1, d, d2, rfl, hd, hr, ht⟩ := fld1_rep b x.2 i c2 u y h2 e
    exact ⟨c1 ++ d1, d, d2, by simp, by simp [fldOff, hd, Rep.len a _ _ h1], hr, by simpa [fldT] using ht⟩
  | .int k, x, i, cs, u, y, h, e => by cases i <;> simp [fld1] at e
  | .bool, x, i, cs, u, y, h, e => by cases i <;> simp [fld1] at e
  | .str, x, i, cs, u, y, h, e => by cases i <;> simp [fld1] at e
  | .unit, x, i, cs, u, y, h, e => by cases i <;> simp [fld1] at e
  | .slice _ _, x, i, cs, u, y, h, e => by cases i <;> simp [fld1] at e

theorem getF_rep {S : BSet} {w : World} : ∀ (fs : List Nat) (t : Ty) (x : t.D) (cs : List Value) (u : Ty) (y : u.D), Rep S w t x cs → getF t x fs = some ⟨u, y⟩ →
    ∃ c1 c c2, cs = c1 ++ c ++ c2 ∧ c1.length = offsF t fs ∧ Rep S w u y c
  | [], t, x, cs, u, y, h, e => by
    simp only [getF, Option.some.injEq] at e
    cases e
    exact ⟨[], cs, [], by simp, rfl, h⟩
  | i :: fs, t, x, cs, u, y, h, e => by
    simp only [getF] at e
    split at e
    · rename_i u' y' h1
      obtain ⟨c1, c, c2, rfl, hl, hr, hft⟩ := fld1_rep t x i cs u' y' h h1
      obtain ⟨d1, d, d2, rfl, hl', hr'⟩ := getF_rep fs u' y' c u y hr e
      exact ⟨c1 ++ d1, d, d2 ++ c2, by simp, by simp [offsF, hft, hl, hl'], hr'⟩
    · cases e

theorem RepL.at {α : Type} {R : α → List Value → Prop} {k : Nat} (h : ∀ x c, R x c → c.length = k) : ∀ (l : List α) (xs : List Value), RepL R l xs → ∀ (i : Nat) (x : α), l[i]? = some x →
    ∃ c1 c c2, xs = c1 ++ c ++ c2 ∧ c1.length = i * k ∧ R x c
  | [], _, hl, i, x, hi => by simp at hi
  | y :: l, xs, ⟨c1, c2, e, h1, h2⟩, i, x, hi => by
    have hc1 := h y c1 h1
    cases i with
    | zero => simp at hi; subst hi; exact ⟨[], c1, c2, by simp [e], by simp, h1⟩
    | succ i =>
      obtain ⟨d1, d, d2, rfl, hd, hr⟩ := RepL.at h l c2 h2 i x (by simpa using hi)
      exact ⟨c1 ++ d1, d, d2, by simp [e], by simp [hc1, hd, Nat.succ_mul, Nat.add_comm], hr⟩

theorem sub_cells {w : World} {ad : Addr} {c1 c c2 : List Value} (h : ∀ (j : Nat) (v : Value), (c1 ++ c ++ c2)[j]? = some v → w.cell? (ad.add j) = some v) :
    ∀ (j : Nat) (v : Value), c[j]? = some v → w.cell? ((ad.add c1.length).add j) = some v := fun j v hj => by
  rw [Addr.add_add]
  refine h _ v ?_
  have hlt : j < c.length := by obtain ⟨h, _⟩ := List.getElem?_eq_some_iff.1 hj; exact h
  rw [List.append_assoc, List.getElem?_append_right (by omega), Nat.add_sub_cancel_left, List.getElem?_append_left hlt]; exact hj

/-- Objects that hold elements. -/
def elems (ob : Ob) (e : Ty) (l : List e.D) : Prop := (∃ E, ob = .row E e l) ∨ (∃ E, ob = .fro E e l) ∨ ob = .arr e l

section
variable {B : Base} {μ : Hd} {S : BSet} {w : World} {h : Hp} (I : Inv B μ S w h)
 include I

theorem Inv.elems {o g : Nat} {ob : Ob} {e : Ty} {l : List e.D} (ho : h[o]? = some ob) (hob : elems ob e l) (hd : hdr μ o g) (hne : l ≠ []) :
    ∃ xs, RepL (Rep S w e) l xs ∧ ∀ (j : Nat) (v : Value), xs[j]? = some v → w.cell? ((⟨g, 0, none⟩ : Addr).add j) = some v := by
  rcases hob with ⟨E, rfl⟩ | ⟨E, rfl⟩ | rfl
  · rcases hd with ⟨n, c, hd⟩ | hd
    · obtain ⟨xs, hw, hl⟩ := I.obj o _ _ ho hd
      exact ⟨xs, hl, hw.cells (g := g) rfl⟩
    · obtain ⟨xs, hw, hl⟩ := I.obj o _ _ ho hd
      rcases hw.2 with ⟨hx, _⟩ | ⟨_, _, _, hx, _⟩ <;> cases hx
  · rcases hd with ⟨n, c, hd⟩ | hd
    · obtain ⟨hr, _⟩ := I.obj o _ _ ho hd
      simp only [Rep] at hr
      obtain ⟨a, c', he, hle, hh⟩ := hr
      simp at he
      obtain ⟨rfl, rfl, rfl⟩ := he
      rcases hh with hh | ⟨ad, xs, ha, hs, hl, hc⟩
      · exact absurd hh hne
      · cases ha; exact ⟨xs, hl, hc⟩
    · obtain ⟨hr, _⟩ := I.obj o _ _ ho hd
      simp only [Rep] at hr
      obtain ⟨a, c', he, _⟩ := hr
      simp at he
  · rcases hd with ⟨n, c, hd⟩ | hd
    · obtain ⟨g', cs, T, he, _⟩ := I.obj o _ _ ho hd
      cases he
    · obtain ⟨g', cs, T, he, hg, hl⟩ := I.obj o _ _ ho hd
      cases he
      exact ⟨cs.toList, hl, fun j v hj => by rw [add_lit, cell_of_row w g _ cs T (0, 0) hg]; simpa using hj⟩

/-- A part of an element. -/
theorem Inv.elemF {o g : Nat} {ob : Ob} {e : Ty} {l : List e.D} (ho : h[o]? = some ob) (hob : X.elems ob e l) (hd : hdr μ o g) {i : Nat} {x : e.D} (hi : l[i]? = some x)
    {fs : List Nat} {u : Ty} {y : u.D} (hf : getF e x fs = some ⟨u, y⟩) :
    ∃ c, Rep S w u y c ∧ ∀ (j : Nat) (v : Value), c[j]? = some v → w.cell? ((⟨g, i * e.size + offsF e fs, none⟩ : Addr).add j) = some v := by
  obtain ⟨xs, hl, hc⟩ := I.elems ho hob hd (by rintro rfl; simp at hi)
  obtain ⟨c1, c, c2, rfl, hlen, hr⟩ := RepL.at (fun x c hx => Rep.len e x c hx) l xs hl i x hi
  obtain ⟨d1, d, d2, rfl, hlen', hr'⟩ := getF_rep fs e x c u y hr hf
  have h1 := sub_cells hc
  have h2 := sub_cells h1
  rw [add_lit, add_lit, Nat.zero_add, hlen, hlen'] at h2
  exact ⟨d, hr', h2⟩
end

/-- A read. -/
theorem loadV_sound {P : Program} {tt : TypeId → TI} (ht : TabOK P tt) {B : Base} {μ : Hd} {S : BSet} {w : World} {h : Hp} (I : Inv B μ S w h) {T : TypeId} {p v : V} {u : Value} (hr : (loadV tt T p h).run = some v)
    (hp : VRep μ S w p u) : ∃ x, (Instr.loadAt T u).run P w = .ok x w ∧ VRep μ S w v x := by
  unfold loadV at hr
  split at hr
  · rename_i t x
    split at hr
    · rename_i u' hu
      split at hr
      · rename_i hut
        subst hut
        cases hr
        simp only [VRep] at hp
        obtain ⟨ad, cs, rfl, hrep, hS, hc⟩ := hp
        refine ⟨_, run_loadAt_d (ht.d hu) (Rep.len _ _ _ hrep) hc, ?_⟩
        simp only [VRep]
        exact ⟨cs, hrep, rfl⟩
      · cases hr
    · cases hr
  · rename_i o off
    split at hr
    · rename_i vs ho
      simp only [VRep] at hp
      obtain ⟨g, hm, rfl⟩ := hp
      obtain ⟨g', cs, T', he, hg, hv, h1⟩ := I.obj o _ _ ho hm
      cases he
      have hlen := VRepL.len vs _ hv
      split at hr
      · rename_i u' hu
        split at hr
        · rename_i hle
          have hcs : ∀ (j : Nat) (y : Value), ((cs.toList.drop off).take u'.size)[j]? = some y → w.cell? ((⟨g, off, none⟩ : Addr).add j) = some y := fun j y hj => by
            rw [add_lit, cell_of_row w g _ cs T' (0, 0) hg]
            rw [List.getElem?_take] at hj
            split at hj
            · simpa using hj
            · cases hj
          have hl := run_loadAt_d (ht.d hu) (w := w) (ad := ⟨g, off, none⟩) (cs := (cs.toList.drop off).take u'.size) (by simp at hlen ⊢; omega) hcs
          split at hr
          · rename_i hag
            cases hr
            refine ⟨_, hl, ?_⟩
            simp only [VRep, mkV, hag, if_true]
            exact ⟨_, rfl, by simpa using VRepL.take _ _ _ (VRepL.drop _ _ _ hv), fun x hx => h1 x (List.mem_of_mem_drop (List.mem_of_mem_take (by simpa using hx)))⟩
          · rename_i hag
            cases hr
            refine ⟨_, hl, ?_⟩
            have h1 : u'.size = 1 := by cases u' <;> simp_all [Ty.isAgg, Ty.size]
            have hlt : off < vs.length := by omega
            obtain ⟨y, hy, hyr⟩ := VRepL.get vs _ hv off _ (List.getElem?_eq_getElem hlt)
            simp only [mkV, hag, if_false, h1, Bool.false_eq_true]
            have : ((cs.toList.drop off).take 1).headD undef = y := by
              cases hd : cs.toList.drop off with
              | nil => rw [List.drop_eq_nil_iff] at hd; simp at hd hlen; omega
              | cons z zs =>
                have : cs.toList[off]? = some z := by
                  have := congrArg List.head? hd
                  rw [List.head?_drop] at this; simpa using this
                rw [hy] at this; simp at this; simp [this]
            rw [this, List.getD_eq_getElem?_getD, List.getElem?_eq_getElem hlt]
            exact hyr
        · cases hr
      · rename_i hu
        split at hr
        · rename_i hlt
          cases hr
          obtain ⟨y, hy, hyr⟩ := VRepL.get vs _ hv off _ (List.getElem?_eq_getElem hlt)
          have htt : tiB P T .one = true := by have := ht T; rw [hu] at this; exact this
          refine ⟨y, run_loadAt_one htt (by rw [cell_of_row w g _ cs T' (0, 0) hg]; simpa using hy), ?_⟩
          rw [List.getD_eq_getElem?_getD, List.getElem?_eq_getElem hlt]
          exact hyr
        · cases hr
      · cases hr
    · cases hr
  · rename_i o e0 i fs
    have fin : ∀ {ob : Ob} {e : Ty} {l : List e.D} {u' : Ty}, h[o]? = some ob → tt T = .d u' → elems ob e l →
        (Tr.run (if e = e0 then Tr.bind (idx l i) fun x => match getF e x fs with | some ⟨t, y⟩ => if u' = t then .ret (.dat t y) else .no | none => .no else .no) = some v) →
        ∃ x, (Instr.loadAt T u).run P w = .ok x w ∧ VRep μ S w v x := by
      intro ob e l u' ho hu hob hq
      clear hr
      split at hq
      · rename_i hee
        subst hee
        obtain ⟨x, hx, hq⟩ := Tr.run_bind hq
        split at hq
        · rename_i t y hf
          split at hq
          · rename_i hut
            subst hut
            cases hq
            simp only [VRep] at hp
            obtain ⟨g, hd, h0, rfl⟩ := hp
            unfold idx at hx
            rw [if_pos h0] at hx
            obtain ⟨c, hrep, hc⟩ := I.elemF ho hob hd hx hf
            refine ⟨_, run_loadAt_d (ht.d hu) (Rep.len _ _ _ hrep) hc, ?_⟩
            simp only [VRep]
            exact ⟨c, hrep, rfl⟩
          · cases hq
        · cases hq
      · cases hq
    split at hr
    · rename_i ho hu; exact fin ho hu (.inl ⟨_, rfl⟩) hr
    · rename_i ho hu; exact fin ho hu (.inr (.inl ⟨_, rfl⟩)) hr
    · rename_i ho hu; exact fin ho hu (.inr (.inr rfl)) hr
    · cases hr
  · cases hr

end X
end Go.Proofs.YtjnfmjeiceiciaaGreat

/-
Operations that make no block and write nothing: arithmetic, comparisons, slices, parts.
-/
namespace Go.Proofs.YtjnfmjeiceiciaaGreat
namespace X
open Go Go.RowKit
set_option linter.unusedVariables false
set_option linter.unusedSimpArgs false
set_option linter.unnecessarySimpa false
set_option linter.unusedSectionVars false

section
variable {μ : Hd} {S : BSet} {w : World} {u : Value}
theorem vrep_int {k : IntKind} {n : Int} : VRep μ S w (.dat (.int k) n) u ↔ u = .int k n := by
  simp only [VRep, Rep]
  constructor
  · rintro ⟨cs, rfl, rfl⟩; rfl
  · rintro rfl; exact ⟨_, rfl, rfl⟩
theorem vrep_bool {b : Bool} : VRep μ S w (.dat .bool b) u ↔ u = .bool b := by
  simp only [VRep, Rep]
  constructor
  · rintro ⟨cs, rfl, rfl⟩; rfl
  · rintro rfl; exact ⟨_, rfl, rfl⟩
theorem vrep_str {s : List UInt8} : VRep μ S w (.dat .str s) u ↔ u = .string ⟨s.toArray⟩ := by
  simp only [VRep, Rep]
  constructor
  · rintro ⟨cs, rfl, rfl⟩; rfl
  · rintro rfl; exact ⟨_, rfl, rfl⟩
theorem vrep_slice {E : TypeId} {e : Ty} {l : List e.D} : VRep μ S w (.dat (.slice E e) l) u ↔ Rep S w (.slice E e) l [u] := by
  constructor
  · intro h
    simp only [VRep] at h
    obtain ⟨cs, h1, rfl⟩ := h
    have h2 := h1
    simp only [Rep] at h1
    obtain ⟨a, c, rfl, _⟩ := h1
    simpa [mkV, Ty.isAgg] using h2
  · intro h
    simp only [VRep]
    exact ⟨[u], h, rfl⟩
theorem vrep_boolV {v : V} {b : Bool} (h : boolV v = some b) (hv : VRep μ S w v u) : u = .bool b := by
  unfold boolV at h
  split at h
  · cases h; exact vrep_bool.1 hv
  · cases h; simpa only [VRep] using hv
  · cases h
theorem vrep_intV {v : V} {n : Int} (h : intV v = some n) (hv : VRep μ S w v u) : ∃ k, u = .int k n := by
  unfold intV at h
  split at h
  · cases h; exact ⟨_, vrep_int.1 hv⟩
  · cases h
end

/-! ### Arithmetic -/

section
variable {P : Program} {w : World} {op : BinOp} {T : TypeId} {ox oy : Operand}

theorem binInt {j : IntKind} {a b n : Int} (h : arith op j a b = some n) :
    (do eqGuard op T ox oy (.int j a) (.int j b); binOp op T (.int j a) (.int j b) : Sem Value).run P w = .ok (.int j n) w := by
  cases op <;> simp [arith] at h <;> subst h <;> simp [eqGuard, binOp, Op.intArith, Op.intBits]

theorem cmpInt {j : IntKind} {a b : Int} {t : Bool} (h : cmpI op a b = some t) :
    (do eqGuard op T ox oy (.int j a) (.int j b); binOp op T (.int j a) (.int j b) : Sem Value).run P w = .ok (.bool t) w := by
  cases op <;> simp only [cmpI, Option.some.injEq, reduceCtorEq] at h <;> subst h <;> simp [eqGuard, binOp, Op.intCmp] <;> (first | rfl | (rw [Bool.eq_iff_iff]; simp) | skip)

theorem divInt {j : IntKind} {a b : Int} (hb : b ≠ 0) :
    (do eqGuard .quo T ox oy (.int j a) (.int j b); binOp .quo T (.int j a) (.int j b) : Sem Value).run P w = .ok (.int j (j.wrap (a.tdiv b))) w := by
  simp [eqGuard, binOp, Op.intDiv, hb]
theorem remInt {j : IntKind} {a b : Int} (hb : b ≠ 0) :
    (do eqGuard .rem T ox oy (.int j a) (.int j b); binOp .rem T (.int j a) (.int j b) : Sem Value).run P w = .ok (.int j (a.tmod b)) w := by
  simp [eqGuard, binOp, Op.intDiv, hb]
theorem shlInt {j j' : IntKind} {a b : Int} (hb : ¬ b < 0) :
    (do eqGuard .shl T ox oy (.int j a) (.int j' b); binOp .shl T (.int j a) (.int j' b) : Sem Value).run P w = .ok (.int j (j.wrap (a * 2 ^ (min b.toNat j.bits)))) w := by
  simp [eqGuard, binOp, Op.shift, hb]
theorem shrInt {j j' : IntKind} {a b : Int} (hb : ¬ b < 0) :
    (do eqGuard .shr T ox oy (.int j a) (.int j' b); binOp .shr T (.int j a) (.int j' b) : Sem Value).run P w = .ok (.int j (a.fdiv (2 ^ (min b.toNat j.bits)))) w := by
  simp [eqGuard, binOp, Op.shift, hb]

theorem toList_lit (s : List UInt8) : (⟨s.toArray⟩ : ByteArray).toList = s := by rw [ByteArray.toList_eq]

theorem cmpStr {a b : List UInt8} {t : Bool} (h : cmpS op a b = some t) :
    (do eqGuard op T ox oy (.string ⟨a.toArray⟩) (.string ⟨b.toArray⟩); binOp op T (.string ⟨a.toArray⟩) (.string ⟨b.toArray⟩) : Sem Value).run P w = .ok (.bool t) w := by
  cases op <;> simp only [cmpS, Option.some.injEq, reduceCtorEq] at h <;> subst h <;> simp [eqGuard, binOp, Op.stringOp, toList_lit] <;> (first | rfl | (rw [Bool.eq_iff_iff]; simp) | skip)

theorem addStr {a b : List UInt8} (h : a.length + b.length ≤ maxStr) :
    (do eqGuard .add T ox oy (.string ⟨a.toArray⟩) (.string ⟨b.toArray⟩); binOp .add T (.string ⟨a.toArray⟩) (.string ⟨b.toArray⟩) : Sem Value).run P w = .ok (.string ⟨(a ++ b).toArray⟩) w := by
  have hs : ∀ l : List UInt8, (⟨l.toArray⟩ : ByteArray).size = l.length := fun l => rfl
  have h' : ¬ (((a.length + b.length : Nat) : Int) > IntKind.i64.max) := by
    simp only [maxStr] at h
    simp [IntKind.max, IntKind.signed, IntKind.bits]; omega
  simp only [eqGuard, binOp, Op.stringOp, hs, h', if_false]
  have e : (⟨a.toArray⟩ : ByteArray) ++ ⟨b.toArray⟩ = ⟨(a ++ b).toArray⟩ := by
    apply ByteArray.ext
    simp
  simp [e]
end

/-! ### Equality of structs -/

theorem part_rep {P : Program} {S : BSet} {w : World} {a : Ty} {T : TypeId} {x : a.D} {c : List Value} (h : tyB P a T = true) (hr : Rep S w a x c) (p q : List Value) :
    (part T (p ++ c ++ q).toArray p.length).run P w = .ok (mkV a c) w := by
  obtain ⟨d, hu, hd⟩ := tyB_row h
  obtain ⟨i, z, hi, hs, _⟩ := infoB_spec (tyB_info h)
  have hl := Rep.len a x c hr
  unfold part
  rw [Sem.run_bind, run_isAgg w hu, Result.andThen_ok, hd]
  unfold mkV
  cases hag : a.isAgg with
  | true =>
    simp [Sem.run_bind, run_size w hi, hs, ← hl]
  | false =>
    have h1 : a.size = 1 := by cases a <;> simp_all [Ty.isAgg, Ty.size]
    obtain ⟨v, rfl⟩ : ∃ v, c = [v] := by
      cases c with
      | nil => simp [h1] at hl
      | cons v r => cases r with
        | nil => exact ⟨v, rfl⟩
        | cons _ _ => simp [h1] at hl
    simp

theorem fieldsOf_of {P : Program} {T : TypeId} {fs : Array Field} (h : P.underlying T = some (.struct fs)) : P.fieldsOf T = fs := by simp [Program.fieldsOf, h]

mutual
theorem equal_rep {P : Program} {S S' : BSet} {w : World} : ∀ (t : Ty) (T : TypeId) (d : Nat) (a b : t.D) (xs ys : List Value), tyB P t T = true → t.comparable = true → t.deep ≤ d → Rep S w t a xs → Rep S' w t b ys →
    (Op.equalIn d T (mkV t xs) (mkV t ys)).run P w = .ok (t.eqb a b) w
  | .int k, T, 0, a, b, xs, ys, h, hc, hd, ha, hb => by simp [Ty.deep] at hd
  | .int k, T, d + 1, a, b, xs, ys, h, hc, hd, ha, hb => by
    simp only [tyB, Bool.and_eq_true] at h
    have h1 := h.1
    split at h1
    · rename_i k' hu
      simp only [Rep] at ha hb
      subst ha; subst hb
      simp only [mkV, Ty.isAgg, Bool.false_eq_true, if_false, List.headD_cons]
      rw [run_equalIn_int w d T k k' a b hu]
      simp only [Ty.eqb]
      congr 1
    · cases h1
  | .bool, T, 0, a, b, xs, ys, h, hc, hd, ha, hb => by simp [Ty.deep] at hd
  | .bool, T, d + 1, a, b, xs, ys, h, hc, hd, ha, hb => by
    simp only [tyB, Bool.and_eq_true] at h
    have h1 := h.1
    split at h1
    · rename_i hu
      simp only [Rep] at ha hb
      subst ha; subst hb
      simp only [mkV, Ty.isAgg, Bool.false_eq_true, if_false, List.headD_cons]
      rw [run_equalIn_bool w d T a b hu]
      rfl
    · cases h1
  | .str, T, 0, a, b, xs, ys, h, hc, hd, ha, hb => by simp [Ty.deep] at hd
  | .str, T, d + 1, a, b, xs, ys, h, hc, hd, ha, hb => by
    simp only [tyB, Bool.and_eq_true] at h
    have h1 := h.1
    split at h1
    · rename_i hu
      simp only [Rep] at ha hb
      subst ha; subst hb
      simp only [mkV, Ty.isAgg, Bool.false_eq_true, if_false, List.headD_cons]
      rw [run_equalIn_string w d T _ _ hu, toList_lit, toList_lit]
      simp only [Ty.eqb]
      congr 1
      rw [Bool.eq_iff_iff]; simp
    · cases h1
  | .slice _ _, T, d, a, b, xs, ys, h, hc, hd, ha, hb => by simp [Ty.comparable] at hc
  | .unit, T, 0, a, b, xs, ys, h, hc, hd, ha, hb => by simp [Ty.deep] at hd
  | .unit, T, d + 1, a, b, xs, ys, h, hc, hd, ha, hb => by
    simp only [tyB, Bool.and_eq_true, Bool.not_eq_true'] at h
    have h1 := h.1.1.1
    split at h1
    · rename_i fs hu
      have hf := fieldsOf_of hu
      simp only [mkV, Ty.isAgg, if_true]
      rw [run_equalIn_struct w d T _ _ (by rw [hf]; exact hu) h.1.2, hf]
      have : fs.toList = [] := by simpa using h1
      rw [this]
      simp [Op.eqFields, Ty.eqb]
    · cases h1
  | .pair s t, T, 0, a, b, xs, ys, h, hc, hd, ha, hb => by simp [Ty.deep] at hd
  | .pair s t, T, d + 1, a, b, xs, ys, h, hc, hd, ha, hb => by
    simp only [tyB, Bool.and_eq_true, Bool.not_eq_true'] at h
    have h1 := h.1.1.1
    split at h1
    · rename_i fs hu
      have hf := fieldsOf_of hu
      split at h1
      · rename_i f r hfs
        simp only [Bool.and_eq_true, beq_iff_eq, decide_eq_true_eq] at h1
        obtain ⟨⟨⟨⟨e1, e2⟩, e3⟩, e4⟩, e5⟩ := h1
        simp only [mkV, Ty.isAgg, if_true]
        rw [run_equalIn_struct w d T _ _ (by rw [hf]; exact hu) h.1.2, hf, hfs]
        simp only [Ty.comparable, Bool.and_eq_true] at hc
        simp only [Ty.deep] at hd
        obtain ⟨c1, c2, rfl, r1, r2⟩ := ha
        obtain ⟨d1, d2, rfl, s1, s2⟩ := hb
        have pa := part_rep (P := P) e3 r1 [] c2
        have pb := part_rep (P := P) e3 s1 [] d2
        simp only [List.nil_append, List.length_nil] at pa pb
        have ih := equal_rep s f.type d a.1 b.1 c1 d1 e3 hc.1 (by omega) r1 s1
        simp only [Op.eqFields, e2, ne_eq, not_false_eq_true, if_true, e1, Sem.run_bind, pa, pb, Result.andThen_ok, ih]
        have hlen1 := Rep.len s _ _ r1
        have hlen2 := Rep.len s _ _ s1
        have ih2 := equalF_rep t r s.size d a.2 b.2 c2 d2 c1 d1 hlen1 hlen2 e5 hc.2 (by omega) r2 s2
        simp only [Ty.eqb]
        cases hq : s.eqb a.1 b.1
        · simp
        · simp [ih2]
      · cases h1
    · cases h1
theorem equalF_rep {P : Program} {S S' : BSet} {w : World} : ∀ (t : Ty) (fs : List Field) (o d : Nat) (a b : t.D) (xs ys p q : List Value), p.length = o → q.length = o → fldB P t fs o = true → t.comparable = true → t.deep ≤ d + 1 → Rep S w t a xs → Rep S' w t b ys →
    (Op.eqFields d (p ++ xs).toArray (q ++ ys).toArray fs).run P w = .ok (t.eqb a b) w
  | .unit, [], o, d, a, b, xs, ys, p, q, hp, hq, h, hc, hd, ha, hb => by simp [Op.eqFields, Ty.eqb]
  | .pair s t, f :: r, o, d, a, b, xs, ys, p, q, hp, hq, h, hc, hd, ha, hb => by
    simp only [fldB, Bool.and_eq_true, beq_iff_eq, decide_eq_true_eq] at h
    obtain ⟨⟨⟨⟨e1, e2⟩, e3⟩, e4⟩, e5⟩ := h
    simp only [Ty.comparable, Bool.and_eq_true] at hc
    simp only [Ty.deep] at hd
    obtain ⟨c1, c2, rfl, r1, r2⟩ := ha
    obtain ⟨d1, d2, rfl, s1, s2⟩ := hb
    have pa := part_rep (P := P) e3 r1 p c2
    have pb := part_rep (P := P) e3 s1 q d2
    rw [hp] at pa
    rw [hq] at pb
    have ih := equal_rep s f.type d a.1 b.1 c1 d1 e3 hc.1 (by omega) r1 s1
    have hlen1 := Rep.len s _ _ r1
    have hlen2 := Rep.len s _ _ s1
    have ih2 := equalF_rep t r (o + s.size) d a.2 b.2 c2 d2 (p ++ c1) (q ++ d1) (by simp [hp, hlen1]) (by simp [hq, hlen2]) e5 hc.2 (by omega) r2 s2
    rw [← List.append_assoc p, ← List.append_assoc q]
    simp only [Op.eqFields, e2, ne_eq, not_false_eq_true, if_true, e1, Sem.run_bind, pa, pb, Result.andThen_ok, ih]
    simp only [Ty.eqb]
    cases hq : s.eqb a.1 b.1
    · simp
    · simpa [List.append_assoc] using ih2
  | .unit, _ :: _, o, d, a, b, xs, ys, p, q, hp, hq, h, hc, hd, ha, hb => by simp [fldB] at h
  | .pair _ _, [], o, d, a, b, xs, ys, p, q, hp, hq, h, hc, hd, ha, hb => by simp [fldB] at h
  | .int _, fs, o, d, a, b, xs, ys, p, q, hp, hq, h, hc, hd, ha, hb => by cases fs <;> simp [fldB] at h
  | .bool, fs, o, d, a, b, xs, ys, p, q, hp, hq, h, hc, hd, ha, hb => by cases fs <;> simp [fldB] at h
  | .str, fs, o, d, a, b, xs, ys, p, q, hp, hq, h, hc, hd, ha, hb => by cases fs <;> simp [fldB] at h
  | .slice _ _, fs, o, d, a, b, xs, ys, p, q, hp, hq, h, hc, hd, ha, hb => by cases fs <;> simp [fldB] at h
end

theorem aggV_agg {μ : Hd} {S : BSet} {w : World} {v : V} {u : Value} (h : aggV v = true) (hv : VRep μ S w v u) : ∃ cs, u = .agg cs := by
  unfold aggV at h
  split at h
  · simp only [VRep] at hv; obtain ⟨cs, rfl, _⟩ := hv; exact ⟨cs, rfl⟩
  · simp only [VRep] at hv; obtain ⟨cs, _, rfl⟩ := hv; exact ⟨cs.toArray, by simp [mkV, h]⟩
  · cases h

theorem binV_sound {P : Program} {tt : TypeId → TI} (ht : TabOK P tt) {B : Base} {μ : Hd} {S : BSet} {w : World} {h : Hp} (I : Inv B μ S w h) {op : BinOp} {T : TypeId} {ox oy : Operand} {x y v : V} {ux uy : Value}
    (hr : (binV tt op T x y h).run = some v) (hx : VRep μ S w x ux) (hy : VRep μ S w y uy) :
    ∃ u, (do eqGuard op T ox oy ux uy; binOp op T ux uy : Sem Value).run P w = .ok u w ∧ VRep μ S w v u := by
  unfold binV at hr
  split at hr
  · rename_i j a j' b
    have hx' := vrep_int.1 hx
    have hy' := vrep_int.1 hy
    subst hx'; subst hy'
    split at hr
    · rcases Tr.run_ite hr with ⟨_, hr⟩ | ⟨hb, hr⟩
      · cases hr
      · cases hr
        exact ⟨_, shlInt (by simpa using hb), vrep_int.2 rfl⟩
    · rcases Tr.run_ite hr with ⟨_, hr⟩ | ⟨hb, hr⟩
      · cases hr
      · cases hr
        exact ⟨_, shrInt (by simpa using hb), vrep_int.2 rfl⟩
    · split at hr
      · rename_i hj
        subst hj
        split at hr
        · rcases Tr.run_ite hr with ⟨_, hr⟩ | ⟨hb, hr⟩
          · cases hr
          · cases hr
            exact ⟨_, divInt (by simpa using hb), vrep_int.2 rfl⟩
        · rcases Tr.run_ite hr with ⟨_, hr⟩ | ⟨hb, hr⟩
          · cases hr
          · cases hr
            exact ⟨_, remInt (by simpa using hb), vrep_int.2 rfl⟩
        · split at hr
          · rename_i n hn
            cases hr
            exact ⟨_, binInt hn, vrep_int.2 rfl⟩
          · split at hr
            · rename_i t hc
              cases hr
              exact ⟨_, cmpInt hc, vrep_bool.2 rfl⟩
            · cases hr
      · cases hr
  · rename_i a b
    have hx' := vrep_str.1 hx
    have hy' := vrep_str.1 hy
    subst hx'; subst hy'
    split at hr
    · rcases Tr.run_ite hr with ⟨hb, hr⟩ | ⟨_, hr⟩
      · cases hr
        exact ⟨_, addStr (by simpa using hb), vrep_str.2 rfl⟩
      · cases hr
    · split at hr
      · rename_i t hc
        cases hr
        exact ⟨_, cmpStr hc, vrep_bool.2 rfl⟩
      · cases hr
  · split at hr
    · rename_i hT
      split at hr
      · rename_i a b ha hb
        have hx' := vrep_boolV ha hx
        have hy' := vrep_boolV hb hy
        subst hx'; subst hy'
        have hu : P.underlying T = some .bool := by
          have := ht.d hT
          simp only [tyB, Bool.and_eq_true] at this
          have h1 := this.1
          split at h1
          · assumption
          · cases h1
        split at hr
        · cases hr
          exact ⟨_, by simp [eqGuard, binOp, run_equal_bool w T a b hu], vrep_bool.2 rfl⟩
        · cases hr
          exact ⟨_, by simp [eqGuard, binOp, run_equal_bool w T a b hu], vrep_bool.2 rfl⟩
        · cases hr
      · cases hr
    · rename_i t hne hT
      split at hr
      · rename_i hc
        simp only [Bool.and_eq_true, decide_eq_true_eq] at hc
        obtain ⟨⟨⟨⟨c1, c2⟩, c3⟩, c4⟩, c5⟩ := hc
        split at hr
        · rename_i a _ b _ ha hb
          obtain ⟨_, ra⟩ := toD_borrow I hx ha
          obtain ⟨_, rb⟩ := toD_borrow I hy hb
          obtain ⟨xs, rfl⟩ := aggV_agg c4 hx
          obtain ⟨ys, rfl⟩ := aggV_agg c5 hy
          simp only [Value.cells] at ra rb
          have hty := ht.d hT
          have he := equal_rep t T 10000 a b _ _ hty c2 (by omega) ra rb
          simp only [mkV, c1, if_true, Array.toArray_toList] at he
          have hg : P.eqGuardType P.depth T = false := by
            cases t <;> simp [Ty.isAgg] at c1
            · simp only [tyB, Bool.and_eq_true, Bool.not_eq_true'] at hty; exact hty.2
            · simp only [tyB, Bool.and_eq_true, Bool.not_eq_true'] at hty; exact hty.2
          split at hr
          · cases hr
            refine ⟨_, ?_, vrep_bool.2 rfl⟩
            rw [Sem.run_bind, run_eqGuard_agg w _ T ox oy xs ys hg, Result.andThen_ok, run_eql_struct, he]; rfl
          · cases hr
            refine ⟨_, ?_, vrep_bool.2 rfl⟩
            rw [Sem.run_bind, run_eqGuard_agg w _ T ox oy xs ys hg, Result.andThen_ok, run_neq_struct, he]; rfl
          · cases hr
        · cases hr
      · cases hr
    · cases hr

end X
end Go.Proofs.YtjnfmjeiceiciaaGreat

/-
Operations that make no block and write nothing: slices, parts; all of them.
-/
namespace Go.Proofs.YtjnfmjeiceiciaaGreat
namespace X
open Go Go.RowKit
set_option linter.unusedVariables false
set_option linter.unusedSimpArgs false
set_option linter.unnecessarySimpa false
set_option linter.unusedSectionVars false

/-! ### Fields -/

theorem fldB_spec {P : Program} : ∀ (t : Ty) (l : List Field) (o i : Nat) (u : Ty), fldB P t l o = true → fldT t i = some u → ∃ f, l[i]? = some f ∧ f.offset = o + fldOff t i ∧ tyB P u f.type = true ∧ u.size ≠ 0
  | .pair a b, f :: r, o, 0, u, h, e => by
    simp only [fldB, Bool.and_eq_true, beq_iff_eq, decide_eq_true_eq] at h
    simp only [fldT, Option.some.injEq] at e
    subst e
    exact ⟨f, rfl, by simp [fldOff, h.1.1.1.1], h.1.1.2, h.1.2⟩
  | .pair a b, f :: r, o, i + 1, u, h, e => by
    simp only [fldB, Bool.and_eq_true, beq_iff_eq, decide_eq_true_eq] at h
    simp only [fldT] at e
    obtain ⟨f', h1, h2, h3⟩ := fldB_spec b r (o + a.size) i u h.2 e
    exact ⟨f', by simpa using h1, by simp only [fldOff]; omega, h3⟩
  | .pair _ _, [], o, i, u, h, e => by simp [fldB] at h
  | .unit, l, o, i, u, h, e => by cases i <;> simp [fldT] at e
  | .int _, l, o, i, u, h, e => by cases i <;> simp [fldT] at e
  | .bool, l, o, i, u, h, e => by cases i <;> simp [fldT] at e
  | .str, l, o, i, u, h, e => by cases i <;> simp [fldT] at e
  | .slice _ _, l, o, i, u, h, e => by cases i <;> simp [fldT] at e

theorem fld_spec {P : Program} {t : Ty} {T : TypeId} {i : Nat} {u : Ty} (h : tyB P t T = true) (e : fldT t i = some u) :
    ∃ fs f, P.underlying T = some (.struct fs) ∧ fs[i]? = some f ∧ f.offset = fldOff t i ∧ tyB P u f.type = true ∧ u.size ≠ 0 := by
  cases t with
  | pair a b =>
    simp only [tyB, Bool.and_eq_true, Bool.not_eq_true'] at h
    have h1 := h.1.1.1
    split at h1
    · rename_i fs hu
      split at h1
      · rename_i f r hfs
        have h2 : fldB P (.pair a b) (f :: r) 0 = true := by
          simp only [Bool.and_eq_true, beq_iff_eq, decide_eq_true_eq] at h1
          simp only [fldB, Bool.and_eq_true, beq_iff_eq, decide_eq_true_eq, Nat.zero_add]
          exact h1
        obtain ⟨f', g1, g2, g3⟩ := fldB_spec _ _ 0 i u h2 e
        refine ⟨fs, f', hu, ?_, by simpa using g2, g3⟩
        rw [← hfs] at g1
        simpa using g1
      · cases h1
    · cases h1
  | _ => cases i <;> simp [fldT] at e

theorem run_fieldAt {P : Program} {w : World} {t : Ty} {T : TypeId} {i : Nat} {u : Ty} (h : tyB P t T = true) (e : fldT t i = some u) (ad : Addr) :
    (Instr.fieldAt T (.pointer (some ad)) i).run P w = .ok (.pointer (some (ad.add (fldOff t i)))) w := by
  obtain ⟨fs, f, hu, hf, ho, hty, hsz⟩ := fld_spec h e
  obtain ⟨info, z, hi, hs, _⟩ := infoB_spec (tyB_info hty)
  have hne : ¬ info.size = 0 := by rw [hs]; exact hsz
  simp [Instr.fieldAt, run_underlying hu, hf, Instr.sureAddr, fieldPlace, run_size w hi, hne, ho]

theorem aggV_cells {μ : Hd} {S : BSet} {w : World} {v : V} {u : Value} (h : aggV v = true) (hv : VRep μ S w v u) : ∃ cs, u = .agg cs ∧ VRepL μ S w (cellsOf v) cs.toList ∧ ∀ x ∈ cs.toList, x.oneCell' = true := by
  unfold aggV at h
  split at h
  · simp only [VRep] at hv; obtain ⟨cs, rfl, h2⟩ := hv; exact ⟨cs, rfl, h2⟩
  · rename_i t x
    simp only [VRep] at hv
    obtain ⟨cs, hr, rfl⟩ := hv
    exact ⟨cs.toArray, by simp [mkV, h], by simpa [cellsOf] using VRepL.explode t x cs hr, by simpa using Rep.one t x cs hr⟩
  · cases h

/-- Cells from an offset on, as one value. -/
def cutV (t : Ty) (vs : List V) (off : Nat) : V := if t.isAgg then .agg ((vs.drop off).take t.size) else vs.getD off .undef

theorem part_v {P : Program} {μ : Hd} {S : BSet} {w : World} {a : Ty} {T : TypeId} {vs : List V} {cs : Array Value} {off : Nat} (h : tyB P a T = true) (hv : VRepL μ S w vs cs.toList) (h1' : ∀ x ∈ cs.toList, x.oneCell' = true) (hl : off + a.size ≤ vs.length) :
    ∃ u, (part T cs off).run P w = .ok u w ∧ VRep μ S w (cutV a vs off) u := by
  obtain ⟨d, hu, hd⟩ := tyB_row h
  obtain ⟨i, z, hi, hs, _⟩ := infoB_spec (tyB_info h)
  have hlen := VRepL.len vs _ hv
  unfold part cutV
  rw [Sem.run_bind, run_isAgg w hu, Result.andThen_ok, hd]
  cases hag : a.isAgg with
  | true =>
    refine ⟨_, by simp [Sem.run_bind, run_size w hi, hs]; rfl, ?_⟩
    simp only [if_true, VRep]
    refine ⟨_, rfl, ?_, fun x hx => ?_⟩
    · have := VRepL.take a.size _ _ (VRepL.drop off _ _ hv)
      simpa [List.take_drop, Nat.add_comm] using this
    · refine h1' x ?_
      simp only [Array.toList_extract, List.extract_eq_take_drop] at hx
      exact List.mem_of_mem_drop (List.mem_of_mem_take hx)
  | false =>
    have h1 : a.size = 1 := by cases a <;> simp_all [Ty.isAgg, Ty.size]
    have hlt : off < vs.length := by omega
    obtain ⟨y, hy, hyr⟩ := VRepL.get vs _ hv off _ (List.getElem?_eq_getElem hlt)
    simp only [Array.getElem?_toList] at hy
    refine ⟨y, by simp [hy], ?_⟩
    simp only [Bool.false_eq_true, if_false]
    rw [List.getD_eq_getElem?_getD, List.getElem?_eq_getElem hlt]
    exact hyr

theorem fld_le : ∀ (t : Ty) (i : Nat) (u : Ty), fldT t i = some u → fldOff t i + u.size ≤ t.size
  | .pair a b, 0, u, h => by simp only [fldT, Option.some.injEq] at h; subst h; simp [fldOff, Ty.size]
  | .pair a b, i + 1, u, h => by simp only [fldT] at h; have := fld_le b i u h; simp only [fldOff, Ty.size]; omega
  | .unit, i, u, h => by cases i <;> simp [fldT] at h
  | .int _, i, u, h => by cases i <;> simp [fldT] at h
  | .bool, i, u, h => by cases i <;> simp [fldT] at h
  | .str, i, u, h => by cases i <;> simp [fldT] at h
  | .slice _ _, i, u, h => by cases i <;> simp [fldT] at h

theorem offsF_snoc : ∀ (fs : List Nat) (t : Ty) (f : Nat) (u : Ty), fldTs t fs = some u → (fldT u f).isSome = true → offsF t (fs ++ [f]) = offsF t fs + fldOff u f
  | [], t, f, u, h, hf => by
    simp only [fldTs, Option.some.injEq] at h
    subst h
    simp only [List.nil_append, offsF, Nat.zero_add]
    cases hq : fldT t f with
    | none => simp [hq] at hf
    | some v => rfl
  | i :: fs, t, f, u, h, hf => by
    simp only [fldTs] at h
    simp only [List.cons_append, offsF]
    cases hq : fldT t i with
    | none => simp [hq] at h
    | some v =>
      simp only [hq] at h
      have := offsF_snoc fs v f u h hf
      simp only [this, Nat.add_assoc]

/-! ### Slices -/

theorem sliceAt_run {P : Program} {w : World} {T E : TypeId} {i : TypeInfo} (hu : P.underlying T = some (.slice E)) (hi : P.info? E = some i) {a : Option Addr} {len cap : Nat} {lo hi' : Option Value} {l u : Int}
    (hlo : (lo = none ∧ l = 0) ∨ ∃ k, lo = some (.int k l)) (hhi : (hi' = none ∧ u = (len : Int)) ∨ ∃ k, hi' = some (.int k u)) (h0 : 0 ≤ l) (h1 : l ≤ u) (h2 : u ≤ (len : Int)) (h3 : len ≤ cap) :
    (Instr.sliceAt T (.slice a len cap) lo hi' none).run P w = .ok (sliced a l.toNat u.toNat cap i.size) w := by
  have he : P.elem T = E := by simp [Program.elem, hu]
  have hu' : P.underlying T = some (.slice (P.elem T)) := by rw [he]; exact hu
  rw [run_sliceAt_slice w T _ _ _ _ hu']
  rcases hlo with ⟨rfl, rfl⟩ | ⟨k, rfl⟩ <;> rcases hhi with ⟨rfl, rfl⟩ | ⟨k', rfl⟩
  · rw [run_slice_all w T a len cap hu', he, run_size w hi]; simp
  · rw [run_slice_h w T a len cap hu' k' u (by omega) (by omega), he, run_size w hi]; simp
  · rw [run_slice_l w T a len cap hu' k l (by omega) (by omega), he, run_size w hi]; simp
  · rw [run_slice_lh w T a len cap hu' k k' l u (by omega) (by omega) (by omega), he, run_size w hi]; simp

theorem optIntV {μ : Hd} {S : BSet} {w : World} {lo : Option V} {ulo : Option Value} {l d : Int} (hm : (match lo with | none => some d | some v => intV v) = some l)
    (hv : (lo = none ∧ ulo = none) ∨ ∃ v u, lo = some v ∧ ulo = some u ∧ VRep μ S w v u) : (ulo = none ∧ l = d) ∨ ∃ k, ulo = some (.int k l) := by
  rcases hv with ⟨rfl, rfl⟩ | ⟨v, u, rfl, rfl, hv⟩
  · simp at hm; exact .inl ⟨rfl, hm.symm⟩
  · obtain ⟨k, rfl⟩ := vrep_intV hm hv
    exact .inr ⟨k, rfl⟩

/-- A row's header, its length. -/
theorem Inv.head {B : Base} {μ : Hd} {S : BSet} {w : World} {h : Hp} (I : Inv B μ S w h) {o : Nat} {E : TypeId} {e : Ty} {l : List e.D} {u : Value} (ho : h[o]? = some (.row E e l) ∨ h[o]? = some (.fro E e l)) (hm : μ o = some u) :
    ∃ a c, u = .slice a l.length c ∧ l.length ≤ c ∧ (a = none ∨ ∃ g, a = some ⟨g, 0, none⟩) := by
  rcases ho with ho | ho
  · obtain ⟨xs, hw, hl⟩ := I.obj o _ _ ho hm
    rcases hw.2 with ⟨rfl, hn⟩ | ⟨g, cap, cur, rfl, _, hh, hnc, _⟩
    · exact ⟨none, 0, by rw [hn], by omega, .inl rfl⟩
    · exact ⟨_, cap, rfl, hnc, .inr ⟨g, rfl⟩⟩
  · obtain ⟨hr, a, n, c, rfl, hnc, ha⟩ := I.obj o _ _ ho hm
    simp only [Rep] at hr
    obtain ⟨a', c', he, hle, _⟩ := hr
    simp at he
    obtain ⟨rfl, rfl, rfl⟩ := he
    exact ⟨a, c, rfl, hle, ha⟩

theorem sliceV_sound {P : Program} {tt : TypeId → TI} (ht : TabOK P tt) {B : Base} {μ : Hd} {S : BSet} {w : World} {h : Hp} (I : Inv B μ S w h) {T E : TypeId} {el : Ty} (hT : tt T = .d (.slice E el)) {x v : V} {lo hi : Option V} {ux : Value} {ulo uhi : Option Value}
    (hr : (sliceV el x lo hi h).run = some v) (hx : VRep μ S w x ux) (hlo : (lo = none ∧ ulo = none) ∨ ∃ v u, lo = some v ∧ ulo = some u ∧ VRep μ S w v u) (hhi : (hi = none ∧ uhi = none) ∨ ∃ v u, hi = some v ∧ uhi = some u ∧ VRep μ S w v u) :
    ∃ u, (Instr.sliceAt T ux ulo uhi none).run P w = .ok u w ∧ VRep μ S w v u := by
  obtain ⟨hu, hel⟩ := tyB_slice (ht.d hT)
  obtain ⟨i, z, hinfo, hisz, _⟩ := tyB_elem hel
  unfold sliceV at hr
  split at hr
  · rename_i l u n hl hu' hn
    rcases Tr.run_ite hr with ⟨hc, hq⟩ | ⟨_, hq⟩ <;> clear hr
    · simp only [inR, Bool.and_eq_true, decide_eq_true_eq] at hc
      obtain ⟨⟨h0, h1⟩, h2⟩ := hc
      have hlo' := optIntV hl hlo
      cases x with
      | nils =>
        simp only [lenV, Option.some.injEq] at hn
        subst hn
        cases hq
        simp only [VRep] at hx
        subst hx
        have hhi' : (uhi = none ∧ u = ((0 : Nat) : Int)) ∨ ∃ k, uhi = some (.int k u) := by
          rcases hhi with ⟨rfl, rfl⟩ | ⟨v, x, rfl, rfl, hv⟩
          · simp [lenV] at hu'; exact .inl ⟨rfl, by simpa using hu'.symm⟩
          · obtain ⟨k, rfl⟩ := vrep_intV hu' hv; exact .inr ⟨k, rfl⟩
        refine ⟨_, sliceAt_run hu hinfo hlo' hhi' h0 h1 (by simpa using h2) (Nat.le_refl _), ?_⟩
        have : l.toNat = 0 := by omega
        have : u.toNat = 0 := by omega
        simp [sliced, VRep, *]
      | dat t y =>
        cases t with
        | slice E' e' =>
          simp only [lenV, Option.some.injEq] at hn
          subst hn
          simp only at hq
          split at hq
          · rename_i hee
            subst hee
            cases hq
            have hx' := vrep_slice.1 hx
            simp only [Rep] at hx'
            obtain ⟨a, c, he, hle, hh⟩ := hx'
            simp at he
            subst he
            have hhi' : (uhi = none ∧ u = ((List.length y : Nat) : Int)) ∨ ∃ k, uhi = some (.int k u) := by
              rcases hhi with ⟨rfl, rfl⟩ | ⟨v, x, rfl, rfl, hv⟩
              · simp [lenV] at hu'; exact .inl ⟨rfl, hu'.symm⟩
              · obtain ⟨k, rfl⟩ := vrep_intV hu' hv; exact .inr ⟨k, rfl⟩
            refine ⟨_, sliceAt_run hu hinfo hlo' hhi' h0 h1 h2 hle, vrep_slice.2 ?_⟩
            simp only [Rep]
            have hlen : ((List.take u.toNat y).drop l.toNat).length = u.toNat - l.toNat := by simp; omega
            refine ⟨_, c - l.toNat, by rw [sliced, hlen], by omega, ?_⟩
            by_cases hz : u.toNat - l.toNat = 0
            · exact .inl (List.eq_nil_of_length_eq_zero (by omega))
            · right
              rcases hh with hh | ⟨ad, xs, rfl, hS, hl', hc'⟩
              · rw [hh] at h2; simp at h2; omega
              · have hk := fun x c (hx : Rep S w e' x c) => Rep.len e' x c hx
                have hne : ¬ c = l.toNat := by omega
                refine ⟨ad.add (l.toNat * i.size), (xs.take (u.toNat * e'.size)).drop (l.toNat * e'.size), by simp [hne], by unfold Addr.add; split <;> exact hS, RepL.drop hk _ _ _ (RepL.take hk _ _ _ hl'), fun j x hj => ?_⟩
                rw [Addr.add_add, hisz]
                rw [List.getElem?_drop, List.getElem?_take] at hj
                split at hj
                · exact hc' _ x hj
                · cases hj
          · cases hq
        | _ => simp [lenV, Tr.run] at hn hq
      | row o =>
        simp only [VRep] at hx
        obtain ⟨hm, _⟩ := hx
        have fin : ∀ {E' : TypeId} {e' : Ty} {lt : List e'.D}, (h[o]? = some (.row E' e' lt) ∨ h[o]? = some (.fro E' e' lt)) → lenV h (.row o) = some (lt.length : Int) → Tr.run (if e' = el then Tr.ret (V.sub o e' l u) else Tr.no) = some v →
            ∃ u, (Instr.sliceAt T ux ulo uhi none).run P w = .ok u w ∧ VRep μ S w v u := by
          intro E' e' lt ho hlen hz
          clear hq
          rw [hlen] at hn hu'
          cases hn
          split at hz
          · rename_i hee
            subst hee
            cases hz
            obtain ⟨a, c, rfl, hle, ha⟩ := I.head ho hm
            have hhi' : (uhi = none ∧ u = ((List.length lt : Nat) : Int)) ∨ ∃ k, uhi = some (.int k u) := by
              rcases hhi with ⟨rfl, rfl⟩ | ⟨v, x, rfl, rfl, hv⟩
              · simp at hu'; exact .inl ⟨rfl, hu'.symm⟩
              · obtain ⟨k, rfl⟩ := vrep_intV hu' hv; exact .inr ⟨k, rfl⟩
            refine ⟨_, sliceAt_run hu hinfo hlo' hhi' h0 h1 h2 hle, ?_⟩
            simp only [VRep]
            refine ⟨a, _, c, _, hm, ha, h0, h1, h2, hle, rfl, fun hlt => ?_, fun hz' => ?_⟩
            · have : ¬ c = l.toNat := by omega
              simp [this, hisz]
            · subst hz'
              rcases ha with rfl | ⟨g, rfl⟩ <;> simp [Addr.add]
          · cases hz
        simp only at hq
        split at hq
        · rename_i E' e' lt ho; exact fin (.inl ho) (by simp [lenV, ho]) hq
        · rename_i E' e' lt ho; exact fin (.inr ho) (by simp [lenV, ho]) hq
        · cases hq
      | sub o e' a b =>
        simp only [VRep] at hx
        obtain ⟨a0, n0, c0, p0, hm, ha0, k1, k2, k3, k4, rfl, k6, k7⟩ := hx
        have hn' : n = b - a := by
          simp only [lenV] at hn
          split at hn
          · simpa using hn.symm
          · simpa using hn.symm
          · cases hn
        subst hn'
        simp only at hq
        split at hq
        · rename_i hee
          subst hee
          cases hq
          have hcast : ((b.toNat - a.toNat : Nat) : Int) = b - a := by omega
          have hhi' : (uhi = none ∧ u = ((b.toNat - a.toNat : Nat) : Int)) ∨ ∃ k, uhi = some (.int k u) := by
            rcases hhi with ⟨rfl, rfl⟩ | ⟨v, x, rfl, rfl, hv⟩
            · simp only at hu'
              rw [hn] at hu'
              simp at hu'; exact .inl ⟨rfl, by omega⟩
            · obtain ⟨k, rfl⟩ := vrep_intV hu' hv; exact .inr ⟨k, rfl⟩
          refine ⟨_, sliceAt_run hu hinfo hlo' hhi' h0 h1 (by omega) (by omega), ?_⟩
          simp only [VRep]
          refine ⟨a0, n0, c0, if c0 - a.toNat = l.toNat then p0 else p0.map (·.add (l.toNat * i.size)), hm, ha0, by omega, by omega, by omega, k4, ?_, fun hlt => ?_, fun hz => ?_⟩
          · rw [sliced]
            congr 1 <;> omega
          · have h1 : ¬ c0 - a.toNat = l.toNat := by omega
            have h2 := k6 (by omega)
            rw [if_neg h1, h2, Option.map_map, hisz]
            have : (a + l).toNat = a.toNat + l.toNat := by omega
            rw [this]
            congr 1
            funext ad
            simp only [Function.comp_apply]
            rw [Addr.add_add, Nat.add_mul]
          · have e1 : a = 0 := by omega
            have e2 : l = 0 := by omega
            rw [k7 e1, e2]
            rcases ha0 with rfl | ⟨g, rfl⟩ <;> simp [Addr.add]
        · cases hq
      | _ => simp [lenV] at hn
    · cases hq
  · cases hr

theorem sliceS_sound {P : Program} {w : World} {μ : Hd} {S : BSet} {T : TypeId} (hu : P.underlying T = some .string) {s : List UInt8} {v : V} {lo hi : Option V} {ulo uhi : Option Value}
    (hr : (sliceS s lo hi).run = some v) (hlo : (lo = none ∧ ulo = none) ∨ ∃ v u, lo = some v ∧ ulo = some u ∧ VRep μ S w v u) (hhi : (hi = none ∧ uhi = none) ∨ ∃ v u, hi = some v ∧ uhi = some u ∧ VRep μ S w v u) :
    ∃ u, (Instr.sliceAt T (.string ⟨s.toArray⟩) ulo uhi none).run P w = .ok u w ∧ VRep μ S w v u := by
  unfold sliceS at hr
  split at hr
  · rename_i l u hl hu'
    rcases Tr.run_ite hr with ⟨hc, hr⟩ | ⟨_, hr⟩
    · simp only [inR, Bool.and_eq_true, decide_eq_true_eq] at hc
      obtain ⟨⟨h0, h1⟩, h2⟩ := hc
      cases hr
      have hlo' := optIntV hl hlo
      have hhi' := optIntV hu' hhi
      have hsz : (⟨s.toArray⟩ : ByteArray).size = s.length := rfl
      have hex : (⟨s.toArray⟩ : ByteArray).extract l.toNat u.toNat = ⟨((s.take u.toNat).drop l.toNat).toArray⟩ := by
        apply ByteArray.ext
        simp [ByteArray.data_extract, List.drop_take]
      refine ⟨.string ((⟨s.toArray⟩ : ByteArray).extract l.toNat u.toNat), ?_, vrep_str.2 (by rw [hex])⟩
      rw [run_sliceAt_string w T _ _ _ _ hu]
      rcases hlo' with ⟨rfl, rfl⟩ | ⟨k, rfl⟩ <;> rcases hhi' with ⟨rfl, rfl⟩ | ⟨k', rfl⟩
      · rw [run_slice_string_all w T _ hu, hsz]; simp
      · rw [run_slice_string_h w T _ hu k' u (by omega) (by rw [hsz]; omega)]; simp
      · rw [run_slice_string_l w T _ hu k l (by omega) (by rw [hsz]; omega), hsz]; simp
      · rw [run_slice_string w T _ k k' l u hu (by omega) (by omega) (by rw [hsz]; omega)]
    · cases hr
  · cases hr

end X
end Go.Proofs.YtjnfmjeiceiciaaGreat

/-
Operations that make no block and write nothing: all of them.
-/
namespace Go.Proofs.YtjnfmjeiceiciaaGreat
namespace X
open Go Go.RowKit
set_option linter.unusedVariables false
set_option linter.unusedSimpArgs false
set_option linter.unnecessarySimpa false
set_option linter.unusedSectionVars false

theorem asIntOf_int {P : Program} {w : World} (k : IntKind) (i : Int) : (asIntOf (.int k i)).run P w = .ok (k, i) w := rfl

theorem run_indexAt_in {P : Program} {w : World} {T E : TypeId} {info : TypeInfo} (hu : P.underlying T = some (.slice E)) (hi : P.info? E = some info) {ad : Addr} {len cap : Nat} {k : IntKind} {i : Int} (h0 : 0 ≤ i) (h1 : i < len) :
    (Instr.indexAt T (.slice (some ad) len cap) (.int k i)).run P w = .ok (.pointer (some (ad.add (i.toNat * info.size)))) w := by
  simp [Instr.indexAt, asIntOf_int, run_underlying hu, run_size w hi, h0, h1]

theorem run_indexAt_arr {P : Program} {w : World} {T E : TypeId} {n : Nat} {info : TypeInfo} (hu : P.underlying T = some (.array n E)) (hi : P.info? E = some info) {ad : Addr} {k : IntKind} {i : Int} (h0 : 0 ≤ i) (h1 : i < n) :
    (Instr.indexAt T (.pointer (some ad)) (.int k i)).run P w = .ok (.pointer (some (ad.add (i.toNat * info.size)))) w := by
  simp [Instr.indexAt, asIntOf_int, run_underlying hu, run_size w hi, h0, h1, Instr.sureAddr]

theorem idx_some {α : Type} {l : List α} {i : Int} {x : α} (h : idx l i = some x) : 0 ≤ i ∧ i < (l.length : Int) ∧ l[i.toNat]? = some x := by
  unfold idx at h
  split at h
  · rename_i h0
    obtain ⟨hlt, _⟩ := List.getElem?_eq_some_iff.1 h
    exact ⟨h0, by omega, h⟩
  · cases h

/-- An element's place. -/
theorem indexAddr_sound {P : Program} {tb : Tabs} (ht : TabOK P tb.tt) {B : Base} {μ : Hd} {S : BSet} {w : World} {h : Hp} (I : Inv B μ S w h) {T : TypeId} {x ix : Operand} {e : Env} {a : Act} (he : VRepL μ S w e a.tmps.toList) {v : V}
    (hr : (opQ tb (.indexAddr T x ix) e h).run = some v) : ∃ u, (Instr.indexAt T (a.eval x) (a.eval ix)).run P w = .ok u w ∧ VRep μ S w v u := by
  have hx := getV_rep he x
  have hix := getV_rep he ix
  simp only [opQ] at hr
  split at hr
  · rename_i E el ki i hT hi
    obtain ⟨hu, hel⟩ := tyB_slice (ht.d hT)
    obtain ⟨info, z, hinfo, hisz, _⟩ := tyB_elem hel
    rw [hi] at hix
    rw [vrep_int.1 hix]
    split at hr
    · rename_i E' el' l hg
      split at hr
      · rename_i hee
        subst hee
        obtain ⟨y, hy, hr⟩ := Tr.run_bind hr
        cases hr
        obtain ⟨h0, h1, h2⟩ := idx_some hy
        rw [hg] at hx
        have hx' := vrep_slice.1 hx
        simp only [Rep] at hx'
        obtain ⟨ad0, c, hc, hle, hh⟩ := hx'
        simp at hc
        rw [hc]
        rcases hh with hh | ⟨ad, xs, rfl, hS, hl, hcell⟩
        · rw [hh] at h1; simp at h1; omega
        · obtain ⟨c1, c2, c3, rfl, hlen, hrep⟩ := RepL.at (fun x c hx => Rep.len el' x c hx) _ _ hl _ _ h2
          refine ⟨_, run_indexAt_in hu hinfo h0 h1, ?_⟩
          simp only [VRep]
          refine ⟨_, c2, rfl, hrep, by unfold Addr.add; split <;> exact hS, ?_⟩
          have := sub_cells hcell
          rw [hlen, ← hisz] at this
          exact this
      · cases hr
    · rename_i o hg
      rw [hg] at hx
      simp only [VRep] at hx
      obtain ⟨hm, _⟩ := hx
      have fin : ∀ {E' : TypeId} {e' : Ty} {lt : List e'.D}, (h[o]? = some (.row E' e' lt) ∨ h[o]? = some (.fro E' e' lt)) → Tr.run (if e' = el then Tr.bind (idx lt i) fun _ => Tr.ret (V.ep o e' i []) else Tr.no) = some v →
          ∃ u, (Instr.indexAt T (a.eval x) (.int ki i)).run P w = .ok u w ∧ VRep μ S w v u := by
        intro E' e' lt ho hq
        split at hq
        · rename_i hee
          subst hee
          obtain ⟨y, hy, hq⟩ := Tr.run_bind hq
          cases hq
          obtain ⟨h0, h1, h2⟩ := idx_some hy
          obtain ⟨a0, c, hau, hle, ha⟩ := I.head ho hm
          rw [hau]
          rcases ha with rfl | ⟨g, rfl⟩
          · -- an empty header has no elements
            exfalso
            rcases ho with ho | ho
            · obtain ⟨xs, hw, hl⟩ := I.obj o _ _ ho hm
              rw [hau] at hw
              rcases hw.2 with ⟨hz, hn⟩ | ⟨g, cap, cur, hz, _⟩
              · rw [hn] at h1; simp at h1; omega
              · cases hz
            · obtain ⟨hrr, _⟩ := I.obj o _ _ ho hm
              rw [hau] at hrr
              simp only [Rep] at hrr
              obtain ⟨a', c', hz, _, hh⟩ := hrr
              rcases hh with hh | ⟨ad, xs, hz', _⟩
              · rw [hh] at h1; simp at h1; omega
              · simp at hz
                rw [← hz.1] at hz'; cases hz'
          · refine ⟨_, run_indexAt_in hu hinfo h0 h1, ?_⟩
            simp only [VRep, offsF, Nat.add_zero]
            exact ⟨g, .inl ⟨_, _, by rw [hm, hau]⟩, h0, by rw [add_lit, hisz, Nat.zero_add]⟩
        · cases hq
      split at hr
      · rename_i E' e' lt ho; exact fin (.inl ho) hr
      · rename_i E' e' lt ho; exact fin (.inr ho) hr
      · cases hr
    · rename_i o e0 lo hi' hg
      rw [hg] at hx
      simp only [VRep] at hx
      obtain ⟨a0, n0, c0, p0, hm, ha0, k1, k2, k3, k4, hau, k6, k7⟩ := hx
      have fin : ∀ {E' : TypeId} {e' : Ty} {lt : List e'.D}, (h[o]? = some (.row E' e' lt) ∨ h[o]? = some (.fro E' e' lt)) →
          Tr.run (if e0 = e' ∧ e' = el then Tr.ite (decide (0 ≤ i) && decide (i < hi' - lo)) (Tr.bind (idx lt (lo + i)) fun _ => Tr.ret (V.ep o e' (lo + i) [])) Tr.no else Tr.no) = some v →
          ∃ u, (Instr.indexAt T (a.eval x) (.int ki i)).run P w = .ok u w ∧ VRep μ S w v u := by
        intro E' e' lt ho hq
        split at hq
        · rename_i hee
          obtain ⟨e1, e2⟩ := hee
          subst e1
          subst e2
          rcases Tr.run_ite hq with ⟨hb, hq⟩ | ⟨_, hq⟩
          · simp only [Bool.and_eq_true, decide_eq_true_eq] at hb
            obtain ⟨y, hy, hq⟩ := Tr.run_bind hq
            cases hq
            obtain ⟨h0, h1, h2⟩ := idx_some hy
            have hb1 : @LE.le Int _ 0 i := hb.1
            have hb2 : @LT.lt Int _ i (hi' - lo) := hb.2
            have hp := k6 (by omega)
            rw [hau, hp]
            rcases ha0 with rfl | ⟨g, rfl⟩
            · obtain ⟨a', c', hz, _, _⟩ := I.head ho hm
              exfalso
              rcases ho with ho | ho
              · obtain ⟨xs, hw, hl⟩ := I.obj o _ _ ho hm
                rcases hw.2 with ⟨hz, hn⟩ | ⟨g, cap, cur, hz, _⟩
                · rw [hn] at h1; simp at h1; omega
                · cases hz
              · obtain ⟨hrr, _⟩ := I.obj o _ _ ho hm
                simp only [Rep] at hrr
                obtain ⟨a', c', hz, _, hh⟩ := hrr
                rcases hh with hh | ⟨ad, xs, hz', _⟩
                · rw [hh] at h1; simp at h1; omega
                · simp at hz
                  rw [← hz.1] at hz'; cases hz'
            · refine ⟨_, run_indexAt_in hu hinfo hb.1 (by omega), ?_⟩
              simp only [VRep, offsF, Nat.add_zero]
              refine ⟨g, .inl ⟨_, _, hm⟩, h0, ?_⟩
              rw [add_lit, add_lit, hisz, Nat.zero_add, ← Nat.add_mul]
              congr 5
              omega
          · cases hq
        · cases hq
      split at hr
      · rename_i E' e' lt ho; exact fin (.inl ho) hr
      · rename_i E' e' lt ho; exact fin (.inr ho) hr
      · cases hr
    · cases hr
  · rename_i n E el ki i hT hi
    rw [hi] at hix
    rw [vrep_int.1 hix]
    split at hr
    · rename_i o hg
      split at hr
      · rename_i e' l ho
        split at hr
        · rename_i hee
          subst hee
          rcases Tr.run_ite hr with ⟨hb, hr⟩ | ⟨_, hr⟩
          · obtain ⟨y, hy, hr⟩ := Tr.run_bind hr
            cases hr
            obtain ⟨h0, h1, h2⟩ := idx_some hy
            rw [hg] at hx
            simp only [VRep] at hx
            obtain ⟨g, hm, hau⟩ := hx
            rw [hau]
            have htb := ht T
            rw [hT] at htb
            simp only [tiB, Bool.and_eq_true] at htb
            obtain ⟨⟨⟨⟨g1, g2⟩, _⟩, _⟩, _⟩ := htb
            split at g1
            · rename_i n' E' hu
              simp only [Bool.and_eq_true, beq_iff_eq] at g1
              obtain ⟨rfl, rfl⟩ := g1
              obtain ⟨info, z, hinfo, hisz, _⟩ := tyB_elem g2
              refine ⟨_, run_indexAt_arr hu hinfo h0 (by simpa using hb), ?_⟩
              simp only [VRep, offsF, Nat.add_zero]
              exact ⟨g, .inr hm, h0, by rw [add_lit, hisz, Nat.zero_add]⟩
            · cases g1
          · cases hr
        · cases hr
      · cases hr
    · cases hr
  · cases hr

/-! ### Strings -/

theorem bytes_rep {S : BSet} {w : World} : ∀ (l : List Int) (xs : List Value), RepL (Rep S w (.int .u8)) l xs → xs = l.map (Value.int .u8)
  | [], xs, h => by simp only [RepL] at h; simp [h]
  | n :: l, xs, ⟨c1, c2, e, h1, h2⟩ => by
    simp only [Rep] at h1
    rw [e, h1, bytes_rep l c2 h2]; rfl

theorem foldl_push (l : List Int) : ∀ acc : List UInt8, l.foldl (fun (r : ByteArray) n => r.push (UInt8.ofNat n.toNat)) ⟨acc.toArray⟩ = ⟨(acc ++ l.map fun n : Int => UInt8.ofNat n.toNat).toArray⟩ := by
  induction l with
  | nil => intro acc; simp
  | cons n l ih =>
    intro acc
    have : (⟨acc.toArray⟩ : ByteArray).push (UInt8.ofNat n.toNat) = ⟨(acc ++ [UInt8.ofNat n.toNat]).toArray⟩ := by
      apply ByteArray.ext
      simp
    simp only [List.foldl_cons, this, ih, List.map_cons, List.append_assoc, List.singleton_append]

theorem run_convert_bytes {P : Program} {S : BSet} {w : World} {src dst E : TypeId} (hs : P.underlying src = some (.slice E)) (hd : P.underlying dst = some .string) (he : P.underlying E = some (.int .u8)) {l : List Int} {u : Value}
    (hr : Rep S w (.slice E (.int .u8)) l [u]) : (convert src dst u).run P w = .ok (.string ⟨(l.map fun n : Int => UInt8.ofNat n.toNat).toArray⟩) w := by
  simp only [Rep] at hr
  obtain ⟨a, c, h1, hle, hh⟩ := hr
  simp at h1
  subst h1
  have key : (Conv.bytesToString (.slice a l.length c)).run P w = .ok (.string ⟨(l.map fun n : Int => UInt8.ofNat n.toNat).toArray⟩) w := by
    cases a with
    | none =>
      rcases hh with hh | ⟨ad, xs, h, _⟩
      · subst hh; simp [Conv.bytesToString]; rfl
      · cases h
    | some ad =>
      have hload : (loadCells ad l.length).run P w = .ok (l.map (Value.int .u8)).toArray w := by
        rcases hh with hh | ⟨ad', xs, h, _, hl, hc⟩
        · subst hh; simp [loadCells, loadCellsFrom]
        · cases h
          have := bytes_rep (S := S) (w := w) l xs hl
          subst this
          have := run_loadCells_list (P := P) w ad _ hc
          simpa using this
      rw [run_bytesToString w ad l.length c l hload]
      have := foldl_push l []
      simp only [List.nil_append] at this
      rw [← this]; rfl
  cases a with
  | none => simp [convert, run_underlying hs, run_underlying hd, run_underlying he, key]
  | some ad => simp [convert, run_underlying hs, run_underlying hd, run_underlying he, key]

end X
end Go.Proofs.YtjnfmjeiceiciaaGreat

/-
Operations that make no block and write nothing: the theorem.
-/
namespace Go.Proofs.YtjnfmjeiceiciaaGreat
namespace X
open Go Go.RowKit
set_option linter.unusedVariables false
set_option linter.unusedSimpArgs false
set_option linter.unnecessarySimpa false
set_option linter.unusedSectionVars false

theorem optV {μ : Hd} {S : BSet} {w : World} {e : Env} {a : Act} (he : VRepL μ S w e a.tmps.toList) (lo : Option Operand) :
    (lo.map (getV e) = none ∧ lo.map a.eval = none) ∨ ∃ v u, lo.map (getV e) = some v ∧ lo.map a.eval = some u ∧ VRep μ S w v u := by
  cases lo with
  | none => exact .inl ⟨rfl, rfl⟩
  | some x => exact .inr ⟨_, _, rfl, rfl, getV_rep he x⟩

theorem wrapV {P : Program} {w : World} {s : Sem Value} {p : Value → Prop} (h : ∃ u, s.run P w = .ok u w ∧ p u) : ∃ u, (do pure (Next.value (← s)) : Sem Next).run P w = .ok (.value u) w ∧ p u := by
  obtain ⟨u, h1, h2⟩ := h
  exact ⟨u, by simp [h1], h2⟩

theorem lenV_sound {B : Base} {μ : Hd} {S : BSet} {w : World} {h : Hp} (I : Inv B μ S w h) {v : V} {u : Value} {n : Int} (hn : lenV h v = some n) (hv : VRep μ S w v u) (hs : ∀ s, v ≠ .dat .str s) : ∃ a l c, u = .slice a l c ∧ (l : Int) = n := by
  unfold lenV at hn
  split at hn
  · cases hn; simp only [VRep] at hv; exact ⟨_, _, _, hv, rfl⟩
  · rename_i s; exact absurd rfl (hs s)
  · rename_i E e l
    cases hn
    have := vrep_slice.1 hv
    simp only [Rep] at this
    obtain ⟨a, c, h1, _⟩ := this
    simp at h1
    exact ⟨a, _, c, h1, rfl⟩
  · rename_i o
    simp only [VRep] at hv
    split at hn
    · rename_i E e l ho
      cases hn
      obtain ⟨a, c, h1, _⟩ := I.head (.inl ho) hv.1
      exact ⟨_, _, _, h1, rfl⟩
    · rename_i E e l ho
      cases hn
      obtain ⟨a, c, h1, _⟩ := I.head (.inr ho) hv.1
      exact ⟨_, _, _, h1, rfl⟩
    · cases hn
  · rename_i o e lo hi
    simp only [VRep] at hv
    obtain ⟨a0, n0, c0, p0, hm, ha0, k1, k2, k3, k4, hau, k6, k7⟩ := hv
    have : n = hi - lo := by
      split at hn
      · simpa using hn.symm
      · simpa using hn.symm
      · cases hn
    exact ⟨_, _, _, hau, by omega⟩
  · cases hn

theorem execBuiltin {P : Program} {w : World} (b : Builtin) (o : Oper) (args : Array Operand) (argTypes : Array TypeId) (a : Act) (ho : o.op = .call { callee := .builtin b, args, argTypes }) :
    ∃ cs, (execOp a.eval o).run P w = (builtin b argTypes o.type cs (args.map a.eval)).run P w := by
  unfold execOp
  simp only [ho]
  simp only [resolve, invoke, Sem.run_bind, Sem.run_pure, Result.andThen_ok]
  exact ⟨_, rfl⟩

theorem argD0 {e : Env} {args : Array Operand} {v : V} (h : getV e (args.getD 0 (.const undef)) = v) (hv : v ≠ .undef) : ∃ x, args[0]? = some x ∧ getV e x = v := by
  cases hx : args[0]? with
  | none =>
    rw [Array.getD_eq_getD_getElem?, hx] at h
    simp [getV, ofC, ofC0, undef] at h
    exact absurd h.symm hv
  | some x =>
    rw [Array.getD_eq_getD_getElem?, hx] at h
    exact ⟨x, rfl, by simpa using h⟩

theorem tt0 {tt : TypeId → TI} {argTypes : Array TypeId} {x : TI} (h : (argTypes[0]?).map tt = some x) : ∃ T, argTypes[0]? = some T ∧ tt T = x := by
  cases hT : argTypes[0]? with
  | none => simp [hT] at h
  | some T => simp [hT] at h; exact ⟨T, rfl, h⟩

theorem tyB_str {P : Program} {T : TypeId} (h : tyB P .str T = true) : P.underlying T = some .string := by
  simp only [tyB, Bool.and_eq_true] at h
  have h1 := h.1
  split at h1
  · assumption
  · cases h1
theorem tyB_int {P : Program} {T : TypeId} {k : IntKind} (h : tyB P (.int k) T = true) : P.underlying T = some (.int k) := by
  simp only [tyB, Bool.and_eq_true] at h
  have h1 := h.1
  split at h1
  · rename_i k' hu
    rw [beq_iff_eq] at h1
    rw [hu, h1]
  · cases h1

theorem opQ_sound {P : Program} {tb : Tabs} (ht : TabOK P tb.tt) {B : Base} {μ : Hd} {S : BSet} {w : World} {h : Hp} (I : Inv B μ S w h) {e : Env} {a : Act} (he : VRepL μ S w e a.tmps.toList) {o : Oper} {v : V}
    (hr : (opQ tb o.op e h).run = some v) : ∃ u, (execOp a.eval o).run P w = .ok (.value u) w ∧ VRep μ S w v u := by
  obtain ⟨dst, op, type, pos, after, guard⟩ := o
  simp only at hr
  cases op with
  | move x => simp only [opQ, Tr.run, Option.some.injEq] at hr; subst hr; exact ⟨_, rfl, getV_rep he x⟩
  | assign x => simp only [opQ, Tr.run, Option.some.injEq] at hr; subst hr; exact ⟨_, rfl, getV_rep he x⟩
  | pick c x y =>
    have hc := getV_rep he c
    have hx := getV_rep he x
    have hy := getV_rep he y
    simp only [opQ] at hr
    split at hr
    · rename_i t hg
      rw [hg] at hc
      simp only [VRep] at hc
      cases hr
      refine ⟨_, by simp [execOp, hc, asBool]; rfl, ?_⟩
      cases t
      · simpa using hy
      · simpa using hx
    · rename_i t hg
      rw [hg] at hc
      have hc' := vrep_bool.1 hc
      refine ⟨if t then a.eval x else a.eval y, by simp [execOp, hc', asBool], ?_⟩
      split at hr
      · rename_i p q hp hq
        cases hr
        rw [vrep_boolV hp hx, vrep_boolV hq hy]
        refine vrep_bool.2 ?_
        cases t <;> rfl
      · rcases Tr.run_ite hr with ⟨ht', hr⟩ | ⟨ht', hr⟩
        · cases hr; subst ht'; simpa using hx
        · cases hr; subst ht'; simpa using hy
    · cases hr
  | load T x =>
    simp only [opQ] at hr
    exact wrapV (loadV_sound ht I hr (getV_rep he x))
  | nilCheck x =>
    have hx := getV_rep he x
    simp only [opQ] at hr
    split at hr
    · rename_i hg
      cases hr; rw [hg] at hx; refine ⟨a.eval x, ?_, hx⟩
      simp only [VRep] at hx; obtain ⟨g, _, hu⟩ := hx; simp [execOp, hu]
    · rename_i hg
      cases hr; rw [hg] at hx; refine ⟨a.eval x, ?_, hx⟩
      simp only [VRep] at hx; obtain ⟨g, _, _, hu⟩ := hx; simp [execOp, hu]
    · rename_i hg
      cases hr; rw [hg] at hx; refine ⟨a.eval x, ?_, hx⟩
      simp only [VRep] at hx; obtain ⟨g, _, hu⟩ := hx; simp [execOp, hu]
    · rename_i hg
      cases hr; rw [hg] at hx; refine ⟨a.eval x, ?_, hx⟩
      simp only [VRep] at hx; obtain ⟨ad, cs, hu, _⟩ := hx; simp [execOp, hu]
    · rename_i hg
      cases hr; rw [hg] at hx; refine ⟨a.eval x, ?_, hx⟩
      simp only [VRep] at hx; obtain ⟨cs, hu, _⟩ := hx; simp [execOp, hu]
    · cases hr
  | binOp op T x y T' =>
    simp only [opQ] at hr
    exact wrapV (binV_sound ht I hr (getV_rep he x) (getV_rep he y))
  | unOp op T x =>
    have hx := getV_rep he x
    cases op with
    | not =>
      simp only [opQ] at hr
      split at hr
      · rename_i b hg
        cases hr; rw [hg] at hx
        exact wrapV ⟨_, by rw [vrep_bool.1 hx]; rfl, vrep_bool.2 rfl⟩
      · rename_i b hg
        cases hr; rw [hg] at hx
        simp only [VRep] at hx
        exact wrapV ⟨_, by rw [hx]; rfl, by simp only [VRep]⟩
      · cases hr
    | neg =>
      simp only [opQ] at hr
      split at hr
      · rename_i j n hg
        cases hr; rw [hg] at hx
        exact wrapV ⟨_, by rw [vrep_int.1 hx]; rfl, vrep_int.2 rfl⟩
      · cases hr
    | plus => simp [opQ, Tr.run] at hr
    | xor =>
      simp only [opQ] at hr
      split at hr
      · rename_i j n hg
        simp only [arith] at hr
        cases hr; rw [hg] at hx
        exact wrapV ⟨_, by rw [vrep_int.1 hx]; rfl, vrep_int.2 rfl⟩
      · cases hr
  | convert src dst x =>
    have hx := getV_rep he x
    simp only [opQ] at hr
    split at hr
    · rename_i k j hs hd
      split at hr
      · rename_i k' n hg
        cases hr; rw [hg] at hx
        exact wrapV ⟨_, by rw [vrep_int.1 hx]; simp [convert, run_underlying (tyB_int (ht.d hs)), run_underlying (tyB_int (ht.d hd)), Conv.intToInt], vrep_int.2 rfl⟩
      · cases hr
    · rename_i hs hd
      split at hr
      · rename_i s hg
        cases hr; rw [hg] at hx
        exact wrapV ⟨_, by rw [vrep_str.1 hx]; simp [convert, run_underlying (tyB_str (ht.d hs)), run_underlying (tyB_str (ht.d hd))], vrep_str.2 rfl⟩
      · cases hr
    · rename_i E hs hd
      split at hr
      · rename_i l hl
        cases hr
        obtain ⟨hu, hel⟩ := tyB_slice (ht.d hs)
        exact wrapV ⟨_, run_convert_bytes hu (tyB_str (ht.d hd)) (tyB_int hel) (rowOf_borrow (E := E) I hl hx), vrep_str.2 rfl⟩
      · cases hr
    · cases hr
  | makeInterface T x =>
    simp only [opQ] at hr
    split at hr
    · rename_i t hT
      cases hr
      obtain ⟨d, hu, hd⟩ := tyB_row (ht.d hT)
      refine wrapV ⟨.iface T (a.eval x), ?_, by simp [VRep]⟩
      have hni : ∀ ms, d ≠ .interface ms := by
        rintro ms rfl
        have hty := ht.d hT
        cases t <;> simp only [tyB, hu, Bool.and_eq_true, Bool.false_eq_true, false_and, and_false] at hty
      cases d <;> simp_all [Instr.makeInterface, run_underlying hu]
    · cases hr
  | makeFunc fn first caps =>
    cases fn with
    | func f =>
      simp only [opQ] at hr
      split at hr
      · rename_i hz
        cases hr
        have : first = #[] := Array.eq_empty_of_size_eq_zero hz
        subst this
        refine wrapV ⟨.func (.func f) #[] (caps.map a.eval), by simp [Instr.makeFunc], ?_⟩
        simp only [VRep]
        exact ⟨_, rfl, by simpa using getVs_rep he caps.toList⟩
      · cases hr
    | _ => simp [opQ, Tr.run] at hr
  | slice T x lo hi mx =>
    cases mx with
    | some m => simp [opQ, Tr.run] at hr
    | none =>
      have hx := getV_rep he x
      simp only [opQ] at hr
      split at hr
      · rename_i hT
        split at hr
        · rename_i s hg
          rw [hg] at hx
          obtain ⟨u, h1, h2⟩ := sliceS_sound (P := P) (w := w) (μ := μ) (S := S) (tyB_str (ht.d hT)) hr (optV he lo) (optV he hi)
          exact wrapV ⟨u, by rw [vrep_str.1 hx]; exact h1, h2⟩
        · cases hr
      · rename_i E el hT
        exact wrapV (sliceV_sound ht I hT hr hx (optV he lo) (optV he hi))
      · cases hr
  | fieldAddr T x f =>
    have hx := getV_rep he x
    simp only [opQ] at hr
    split at hr
    · rename_i t hT
      split at hr
      · rename_i u hf
        have hty := ht.d hT
        split at hr
        · rename_i o off hg
          cases hr; rw [hg] at hx
          simp only [VRep] at hx
          obtain ⟨g, hm, hu⟩ := hx
          exact wrapV ⟨_, by rw [hu]; exact run_fieldAt hty hf _, by simp only [VRep]; exact ⟨g, hm, by rw [add_lit]⟩⟩
        · rename_i o e0 i fs hg
          split at hr
          · rename_i hfs
            cases hr; rw [hg] at hx
            simp only [VRep] at hx
            obtain ⟨g, hm, h0, hu⟩ := hx
            refine wrapV ⟨_, by rw [hu]; exact run_fieldAt hty hf _, ?_⟩
            simp only [VRep]
            exact ⟨g, hm, h0, by rw [add_lit, offsF_snoc fs e0 f t hfs (by rw [hf]; rfl), Nat.add_assoc]⟩
          · cases hr
        · rename_i t' y hg
          split at hr
          · rename_i htt
            subst htt
            split at hr
            · rename_i u' z hz
              cases hr; rw [hg] at hx
              simp only [VRep] at hx
              obtain ⟨ad, cs, hu, hrep, hS, hc⟩ := hx
              refine wrapV ⟨_, by rw [hu]; exact run_fieldAt hty hf _, ?_⟩
              simp only [VRep]
              obtain ⟨c1, c, c2, rfl, hlen, hr'⟩ := getF_rep [f] t' y cs u' z hrep hz
              have := sub_cells hc
              have hoff : c1.length = fldOff t' f := by rw [hlen]; simp [offsF, hf]
              rw [hoff] at this
              exact ⟨_, c, rfl, hr', by unfold Addr.add; split <;> exact hS, this⟩
            · cases hr
          · cases hr
        · cases hr
      · cases hr
    · cases hr
  | field T x f =>
    have hx := getV_rep he x
    simp only [opQ] at hr
    split at hr
    · rename_i t hT
      split at hr
      · rename_i u hf
        split at hr
        · rename_i hc
          obtain ⟨hlen, hag⟩ := hc
          obtain ⟨cs, hu, hv, hone⟩ := aggV_cells hag hx
          obtain ⟨fs, f', hst, hf', ho, hty, hsz⟩ := fld_spec (ht.d hT) hf
          obtain ⟨y, h1, h2⟩ := part_v (P := P) (off := fldOff t f) hty hv hone (by have := fld_le t f u hf; omega)
          refine wrapV ⟨y, by rw [hu]; simp [Instr.field, run_underlying hst, hf', asAgg, ho, h1], ?_⟩
          unfold cutV at h2
          split at hr
          · rename_i hau
            cases hr
            simpa [hau] using h2
          · rename_i hau
            cases hr
            simpa [hau] using h2
        · cases hr
      · cases hr
    · cases hr
  | indexAddr T x ix => exact wrapV (indexAddr_sound ht I he hr)
  | index T x ix =>
    have hx := getV_rep he x
    have hix := getV_rep he ix
    simp only [opQ] at hr
    split at hr
    · rename_i s k i hT hg hi
      rw [hg] at hx; rw [hi] at hix
      obtain ⟨c, hc, hr⟩ := Tr.run_bind hr
      cases hr
      obtain ⟨h0, h1, h2⟩ := idx_some hc
      refine wrapV ⟨.int .u8 (c.toNat : Int), ?_, vrep_int.2 rfl⟩
      rw [vrep_str.1 hx, vrep_int.1 hix]
      have : (⟨s.toArray⟩ : ByteArray)[i.toNat]? = some c := by
        have hlt : i.toNat < (⟨s.toArray⟩ : ByteArray).size := by show i.toNat < s.length; omega
        rw [ByteArray.getElem?_lt' _ _ hlt]
        have := List.getElem?_eq_some_iff.1 h2
        obtain ⟨h3, h4⟩ := this
        rw [← h4]; rfl
      simp [Instr.index, asIntOf_int, run_underlying (tyB_str (ht.d hT)), h0, this]
    · cases hr
  | extract x i =>
    have hx := getV_rep he x
    simp only [opQ] at hr
    split at hr
    · rename_i vs hg
      rw [hg] at hx
      simp only [VRep] at hx
      obtain ⟨cs, hu, hv⟩ := hx
      split at hr
      · rename_i y hy
        cases hr
        obtain ⟨u, h1, h2⟩ := VRepL.get vs _ hv i _ hy
        simp only [Array.getElem?_toList] at h1
        exact wrapV ⟨u, by rw [hu]; simp [Instr.extract, h1], h2⟩
      · cases hr
    · cases hr
  | call c =>
    obtain ⟨callee, args, argTypes⟩ := c
    cases callee with
    | value f => simp [opQ, Tr.run] at hr
    | invoke r m => simp [opQ, Tr.run] at hr
    | builtin b =>
      cases b with
      | len =>
        simp only [opQ] at hr
        split at hr
        · rename_i hT
          obtain ⟨T, hT0, hT⟩ := tt0 hT
          split at hr
          · rename_i s hg
            cases hr
            obtain ⟨x, hx0, hgx⟩ := argD0 hg (by simp)
            have hx := getV_rep he x
            rw [hgx] at hx
            refine ⟨_, by obtain ⟨cs, hcs⟩ := execBuiltin (P := P) (w := w) _ ⟨dst, _, type, pos, after, guard⟩ args argTypes a rfl; rw [hcs]; simp [builtin, Builtin.len_, hT0, hx0, run_underlying (tyB_str (ht.d hT)), vrep_str.1 hx, goInt]; rfl, vrep_int.2 rfl⟩
          · cases hr
        · rename_i E el hT
          obtain ⟨T, hT0, hT⟩ := tt0 hT
          obtain ⟨hu, _⟩ := tyB_slice (ht.d hT)
          split at hr
          · cases hr
          · rename_i v0 hns
            split at hr
            · rename_i n hn
              cases hr
              have hne : getV e (args.getD 0 (.const undef)) ≠ .undef := by intro hz; rw [hz] at hn; simp [lenV] at hn
              obtain ⟨x, hx0, hgx⟩ := argD0 rfl hne
              rw [← hgx] at hn hns
              obtain ⟨a', l, c, hax, hln⟩ := lenV_sound I hn (getV_rep he x) (fun s hs => hns s hs)
              refine ⟨_, by obtain ⟨cs, hcs⟩ := execBuiltin (P := P) (w := w) _ ⟨dst, _, type, pos, after, guard⟩ args argTypes a rfl; rw [hcs]; simp [builtin, Builtin.len_, hT0, hx0, run_underlying hu, hax, goInt]; rfl, vrep_int.2 ?_⟩
              rw [hln]
            · cases hr
        · cases hr
      | cap =>
        simp only [opQ] at hr
        split at hr
        · rename_i E el hT hg
          obtain ⟨T, hT0, hT⟩ := tt0 hT
          obtain ⟨hu, _⟩ := tyB_slice (ht.d hT)
          cases hr
          obtain ⟨x, hx0, hgx⟩ := argD0 hg (by simp)
          have hx := getV_rep he x
          rw [hgx] at hx
          simp only [VRep] at hx
          exact ⟨_, by obtain ⟨cs, hcs⟩ := execBuiltin (P := P) (w := w) _ ⟨dst, _, type, pos, after, guard⟩ args argTypes a rfl; rw [hcs]; simp [builtin, Builtin.cap_, hT0, hx0, run_underlying hu, hx, goInt], vrep_int.2 rfl⟩
        · cases hr
      | min =>
        simp only [opQ] at hr
        split at hr
        · rename_i y hy
          cases hr
          unfold minV at hy
          split at hy
          · rename_i k p k' q hl
            split at hy
            · rename_i hk
              subst hk
              cases hy
              have hL := getVs_rep he args.toList
              rw [hl] at hL
              simp only [VRepL] at hL
              obtain ⟨u1, r1, e1, v1, u2, r2, e2, v2, e3⟩ := hL
              subst e3; subst e2
              have hargs : args.map a.eval = #[.int k p, .int k q] := by
                apply Array.ext'
                rw [Array.toList_map, e1, vrep_int.1 v1, vrep_int.1 v2]
              refine ⟨_, by obtain ⟨cs, hcs⟩ := execBuiltin (P := P) (w := w) _ ⟨dst, _, type, pos, after, guard⟩ args argTypes a rfl; rw [hcs, hargs]; simp [builtin, Builtin.min_, Builtin.min2], vrep_int.2 rfl⟩
            · cases hy
          · cases hy
        · cases hr
      | max =>
        simp only [opQ] at hr
        split at hr
        · rename_i y hy
          cases hr
          unfold minV at hy
          split at hy
          · rename_i k p k' q hl
            split at hy
            · rename_i hk
              subst hk
              cases hy
              have hL := getVs_rep he args.toList
              rw [hl] at hL
              simp only [VRepL] at hL
              obtain ⟨u1, r1, e1, v1, u2, r2, e2, v2, e3⟩ := hL
              subst e3; subst e2
              have hargs : args.map a.eval = #[.int k p, .int k q] := by
                apply Array.ext'
                rw [Array.toList_map, e1, vrep_int.1 v1, vrep_int.1 v2]
              refine ⟨_, by obtain ⟨cs, hcs⟩ := execBuiltin (P := P) (w := w) _ ⟨dst, _, type, pos, after, guard⟩ args argTypes a rfl; rw [hcs, hargs]; simp [builtin, Builtin.max_, Builtin.max2], vrep_int.2 rfl⟩
            · cases hy
          · cases hy
        · cases hr
      | _ => simp [opQ, Tr.run] at hr
  | _ => simp [opQ, Tr.run] at hr

end X
end Go.Proofs.YtjnfmjeiceiciaaGreat

/-
Operations that make new objects: variables, structs, rows.
-/
namespace Go.Proofs.YtjnfmjeiceiciaaGreat
namespace X
open Go Go.RowKit
set_option linter.unusedVariables false
set_option linter.unusedSimpArgs false
set_option linter.unnecessarySimpa false
set_option linter.unusedSectionVars false

/-- Behind an operation that made objects and touched no others. -/
structure NewSt (B : Base) (μ : Hd) (S : BSet) (w : World) (h : Hp) (v : V) (hs : Hp) (u : Value) (w' : World) (μ' : Hd) (S' : BSet) : Prop where
  more : More w w'
  inv : Inv B μ' S' w' (h ++ hs)
  le : μ.le μ'
  old : ∀ k, k < h.length → μ' k = μ k
  grow : ∀ b, S b → S' b
  sfresh : ∀ b, S' b → S b ∨ w.heap.size ≤ b
  fresh : ∀ k ob x b, h.length ≤ k → (h ++ hs)[k]? = some ob → μ' k = some x → ownB ob x = some b → w.heap.size ≤ b
  rep : VRep μ' S' w' v u

/-- An operation makes objects and touches no others. -/
def OpNew (P : Program) (B : Base) (o : Oper) (a : Act) (μ : Hd) (S : BSet) (w : World) (h : Hp) (v : V) (hs : Hp) : Prop :=
  ∀ (K : Act → World → Prop) (Q : Exit → Act → World → Prop), (∀ u w' μ' S', NewSt B μ S w h v hs u w' μ' S' → K (a.put o.dst u) w') → o.wp P a w K Q

theorem NewSt.quiet {B : Base} {μ : Hd} {S : BSet} {w : World} {h : Hp} (I : Inv B μ S w h) {v : V} {u : Value} (hv : VRep μ S w v u) : NewSt B μ S w h v [] u w μ S where
  more := More.refl w
  inv := by simpa using I
  le := Hd.le.refl μ
  old _ _ := rfl
  grow _ hb := hb
  sfresh _ hb := .inl hb
  fresh k ob x b hk ho _ _ := by rw [List.append_nil, List.getElem?_eq_none hk] at ho; cases ho
  rep := hv

theorem NewSt.one {B : Base} {μ : Hd} {S : BSet} {w w' : World} {h : Hp} (I : Inv B μ S w h) (k : More w w') {ob : Ob} {u0 : Value} (ho : ORep (μ.put h.length u0) S w' ob u0)
    (hb : ∀ b, ownB ob u0 = some b → w.heap.size ≤ b) {v : V} {u : Value} (hv : VRep (μ.put h.length u0) S w' v u) : NewSt B μ S w h v [ob] u w' (μ.put h.length u0) S where
  more := k
  inv := I.push k ho hb
  le := Hd.put_le (I.fresh _ (Nat.le_refl _))
  old j hj := by unfold Hd.put; rw [if_neg (by omega)]
  grow _ hb := hb
  sfresh _ hb := .inl hb
  fresh j ob' x b hj ho' hm hown := by
    rcases get_snoc ho' with ⟨hlt, _⟩ | ⟨rfl, rfl⟩
    · omega
    · rw [Hd.put_same] at hm; cases hm; exact hb b hown
  rep := hv

theorem OpNew.of_run {P : Program} {B : Base} {o : Oper} {a : Act} {μ μ' : Hd} {S S' : BSet} {w w' : World} {h : Hp} {v : V} {hs : Hp} {u : Value} (hr : (execOp a.eval o).run P w = .ok (.value u) w')
    (hn : NewSt B μ S w h v hs u w' μ' S') : OpNew P B o a μ S w h v hs := fun K Q hk => by
  unfold Oper.wp
  rw [hr, Oper.upon_value]
  exact hk u w' μ' S' hn

/-! ### Zeros -/

theorem zeros_rep {S : BSet} {w : World} (e : Ty) : ∀ (n : Nat) (l : List Value), l.length = n * e.size → (∀ j, j < n → zeroB e ((l.drop (j * e.size)).take e.size) = some []) → RepL (Rep S w e) (List.replicate n e.zero) l
  | 0, l, hl, _ => by simp at hl; simp [hl, RepL]
  | n + 1, l, hl, hz => by
    have h0 := hz 0 (by omega)
    simp only [Nat.zero_mul, List.drop_zero] at h0
    obtain ⟨c, hc, hr⟩ := zeroB_rep (S := S) (w := w) e _ _ h0
    rw [List.append_nil] at hc
    refine ⟨c, l.drop e.size, by rw [← hc, List.take_append_drop], hr, ?_⟩
    refine zeros_rep e n _ (by rw [List.length_drop, hl, Nat.add_mul]; omega) fun j hj => ?_
    have := hz (j + 1) (by omega)
    rw [List.drop_drop, show e.size + j * e.size = (j + 1) * e.size by rw [Nat.add_mul, Nat.one_mul, Nat.add_comm]]
    exact this

theorem RepL.one {S : BSet} {w : World} {e : Ty} : ∀ (l : List e.D) (xs : List Value), RepL (Rep S w e) l xs → ∀ x ∈ xs, x.oneCell' = true
  | [], xs, h, x, hx => by simp only [RepL] at h; simp [h] at hx
  | y :: l, xs, ⟨c1, c2, e1, h1, h2⟩, x, hx => by
    rw [e1] at hx
    rcases List.mem_append.1 hx with hx | hx
    · exact Rep.one e y c1 h1 x hx
    · exact RepL.one l c2 h2 x hx

/-- The zero cells of a type. -/
theorem zero_of {P : Program} {t : Ty} {T : TypeId} (h : tyB P t T = true) : ∃ i z, P.info? T = some i ∧ i.size = t.size ∧ i.bytes ≤ 4096 ∧ i.zero = some z ∧ (∀ (μ : Hd) (S : BSet) (w : World), VRepL μ S w (zeroL t) z.cells.toList) ∧
    (∀ (S : BSet) (w : World), Rep S w t t.zero z.cells.toList) ∧ ∀ x ∈ z.cells.toList, x.oneCell' = true := by
  obtain ⟨i, z, hi, hs, hb, hz, h0⟩ := infoB_spec (tyB_info h)
  refine ⟨i, z, hi, hs, hb, hz, fun μ S w => ?_, fun S w => ?_, ?_⟩
  · obtain ⟨c, hc, hr⟩ := zeroB_vrep (μ := μ) (S := S) (w := w) t _ _ h0
    rw [List.append_nil] at hc; rw [hc]; exact hr
  · obtain ⟨c, hc, hr⟩ := zeroB_rep (S := S) (w := w) t _ _ h0
    rw [List.append_nil] at hc; rw [hc]; exact hr
  · obtain ⟨c, hc, hr⟩ := zeroB_rep (S := fun _ => True) (w := default) t _ _ h0
    rw [List.append_nil] at hc; rw [hc]; exact Rep.one t _ c hr

theorem more_alloc (w : World) (cs : Array Value) (T : TypeId) : More w (w.alloc (.cells cs T)) := More.alloc w _

theorem alloc_new (w : World) (o : Obj) : (w.alloc o).heap[w.heap.size]? = some o := heap_alloc_new w o

/-- A new variable of given cells. -/
theorem NewSt.var {B : Base} {μ : Hd} {S : BSet} {w : World} {h : Hp} (I : Inv B μ S w h) {vs : List V} {cs : Array Value} (T : TypeId) (hv : VRepL μ S w vs cs.toList) (h1 : ∀ x ∈ cs.toList, x.oneCell' = true) :
    NewSt B μ S w h (.cp h.length 0) [.cells vs] (.pointer (some ⟨w.heap.size, 0, none⟩)) (w.alloc (.cells cs T)) (μ.put h.length (.pointer (some ⟨w.heap.size, 0, none⟩))) S := by
  have hk := more_alloc w cs T
  have ho : ORep (μ.put h.length (.pointer (some ⟨w.heap.size, 0, none⟩))) S (w.alloc (.cells cs T)) (.cells vs) (.pointer (some ⟨w.heap.size, 0, none⟩)) :=
    ⟨_, cs, T, rfl, alloc_new w _, VRepL.keep (Hd.put_le (I.fresh _ (Nat.le_refl _))) (hk.keeps I.lt) _ _ hv, h1⟩
  refine NewSt.one I hk ho (fun b hb => by simp [ownB] at hb; omega) ?_
  simp only [VRep]
  exact ⟨_, Hd.put_same, rfl⟩

/-- A new row of given cells. -/
theorem NewSt.row {B : Base} {μ : Hd} {S : BSet} {w : World} {h : Hp} (I : Inv B μ S w h) {E : TypeId} {e : Ty} {l : List e.D} {cs : Array Value} (hl : RepL (Rep S w e) l cs.toList) (hlen : l.length ≤ maxLen) :
    NewSt B μ S w h (.row h.length) [.row E e l] (.slice (some ⟨w.heap.size, 0, none⟩) l.length l.length) (w.alloc (.cells cs E)) (μ.put h.length (.slice (some ⟨w.heap.size, 0, none⟩) l.length l.length)) S := by
  have hk := more_alloc w cs E
  have hcs := RepL.len (fun x c hx => Rep.len e x c hx) l _ hl
  have ho : ORep (μ.put h.length (.slice (some ⟨w.heap.size, 0, none⟩) l.length l.length)) S (w.alloc (.cells cs E)) (.row E e l) (.slice (some ⟨w.heap.size, 0, none⟩) l.length l.length) :=
    ⟨cs.toList, ⟨hcs, .inr ⟨w.heap.size, l.length, cs, rfl, Nat.zero_le _, alloc_new w _, Nat.le_refl _, hlen, by simpa using hcs, by rw [← hcs]; exact List.take_length⟩⟩, RepL.mono (fun x c => Rep.keep (hk.keeps I.lt) e x c) _ _ hl⟩
  refine NewSt.one I hk ho (fun b hb => by simp [ownB] at hb; omega) ?_
  simp only [VRep]
  exact ⟨Hd.put_same, _, _, _, rfl⟩

/-! ### Literals -/

theorem foldl_cut (off : Nat) (l : List Value) (cs : Array Value) (h : off + l.length ≤ cs.size) :
    ((l.zipIdx 0).foldl (fun cs (x : Value × Nat) => cs.setIfInBounds (off + x.2) x.1) cs).toList = cs.toList.take off ++ l ++ cs.toList.drop (off + l.length) := by
  obtain ⟨h1, h2⟩ := Go.Great.foldl_set off l 0 cs
  apply List.ext_getElem?
  intro k
  rw [Array.getElem?_toList, h2 k]
  simp only [Nat.add_zero]
  by_cases hk : k < off
  · rw [if_neg (by omega), List.append_assoc, List.getElem?_append_left (by simp; omega), List.getElem?_take, if_pos hk, Array.getElem?_toList]
  · by_cases hk2 : k < off + l.length
    · rw [if_pos ⟨by omega, hk2, by omega⟩, List.append_assoc, List.getElem?_append_right (by simp; omega)]
      rw [List.getElem?_append_left (by simp; omega)]
      simp
      congr 1
      omega
    · rw [if_neg (by omega), List.getElem?_append_right (by simp; omega), List.getElem?_drop, Array.getElem?_toList]
      congr 1
      simp
      omega

theorem fill_cons (place : Nat → Option (Nat × Nat)) (cells : Array Value) (i : Nat) (v : Value) (rest : List (Nat × Value)) {off size : Nat} (hp : place i = some (off, size)) (hs : v.cells.size = size) (hl : off + size ≤ cells.size) :
    ∃ cells', Instr.fill place cells ((i, v) :: rest) = Instr.fill place cells' rest ∧ cells'.toList = cells.toList.take off ++ v.cells.toList ++ cells.toList.drop (off + size) ∧ cells'.size = cells.size := by
  refine ⟨_, ?_, foldl_cut off v.cells.toList cells (by rw [Array.length_toList, hs]; exact hl) |>.trans (by rw [Array.length_toList, hs]), (Go.Great.foldl_set off v.cells.toList 0 cells).1⟩
  rw [Instr.fill]
  simp only [hp, hs]
  rw [if_neg (by simp; omega)]
  congr 1
  rw [← Array.foldl_toList, Array.toList_zipIdx]

theorem fillV_rep {μ : Hd} {S : BSet} {w : World} {t : Ty} {place : Nat → Option (Nat × Nat)} (hplace : ∀ i u, fldT t i = some u → place i = some (fldOff t i, u.size)) :
    ∀ (ps : List (Nat × V)) (us : List (Nat × Value)) (cs : List V) (cells : Array Value) (cs' : List V), fillV t cs ps = some cs' → ps.map (·.1) = us.map (·.1) → VRepL μ S w (ps.map (·.2)) (us.map (·.2)) → VRepL μ S w cs cells.toList → cs.length = t.size →
      (∀ x ∈ cells.toList, x.oneCell' = true) → ∃ cells', Instr.fill place cells us = some cells' ∧ VRepL μ S w cs' cells'.toList ∧ ∀ x ∈ cells'.toList, x.oneCell' = true
  | [], us, cs, cells, cs', hf, hk, hv, hc, hl, h1 => by
    have : us = [] := by simpa using hk.symm
    subst this
    simp only [fillV, Option.some.injEq] at hf
    subst hf
    exact ⟨cells, rfl, hc, h1⟩
  | (i, v) :: ps, [], cs, cells, cs', hf, hk, hv, hc, hl, h1 => by simp at hk
  | (i, v) :: ps, (i', u) :: us, cs, cells, cs', hf, hk, hv, hc, hl, h1 => by
    simp only [List.map_cons, List.cons.injEq] at hk
    obtain ⟨rfl, hk⟩ := hk
    simp only [List.map_cons, VRepL] at hv
    obtain ⟨u', r, he, hv1, hv2⟩ := hv
    simp only [List.cons.injEq] at he
    obtain ⟨rfl, rfl⟩ := he
    simp only [fillV] at hf
    split at hf
    · rename_i ft hft
      split at hf
      · rename_i hcond
        obtain ⟨hsz, hok⟩ := hcond
        have hvc := hv1.cells v u (by rintro rfl; cases hok)
        have hvl := VRepL.len _ _ hvc
        have hcl := VRepL.len _ _ hc
        have hle := fld_le t i ft hft
        have hus : u.cells.size = ft.size := by rw [← Array.length_toList, hvl]; exact hsz
        obtain ⟨cells', hfill, hcl', hsz'⟩ := fill_cons place cells i u us (hplace i ft hft) hus (by rw [← Array.length_toList, hcl, hl]; exact hle)
        rw [hfill]
        refine fillV_rep hplace ps us _ cells' cs' hf hk hv2 ?_ ?_ ?_
        · rw [hcl']
          exact VRepL.app _ _ _ _ (VRepL.app _ _ _ _ (VRepL.take _ _ _ hc) hvc) (VRepL.drop _ _ _ hc)
        · simp only [List.length_append, List.length_take, List.length_drop, hsz, hl]; omega
        · rw [hcl']
          intro x hx
          rcases List.mem_append.1 hx with hx | hx
          · rcases List.mem_append.1 hx with hx | hx
            · exact h1 x (List.mem_of_mem_take hx)
            · exact hv1.cells1 v u hok x hx
          · exact h1 x (List.mem_of_mem_drop hx)
      · cases hf
    · cases hf

theorem places_spec {P : Program} : ∀ (t : Ty) (fs : List Field) (o : Nat), fldB P t fs o = true → ∃ places, fs.mapM (fun f => (P.info? f.type).map fun i => (f.offset, i.size)) = some places ∧ ∀ i u, fldT t i = some u → places[i]? = some (o + fldOff t i, u.size)
  | .unit, [], o, h => ⟨[], by simp, fun i u hf => by cases i <;> simp [fldT] at hf⟩
  | .pair a b, f :: r, o, h => by
    simp only [fldB, Bool.and_eq_true, beq_iff_eq, decide_eq_true_eq] at h
    obtain ⟨⟨⟨⟨e1, e2⟩, e3⟩, e4⟩, e5⟩ := h
    obtain ⟨ps, hp, hs⟩ := places_spec b r (o + a.size) e5
    obtain ⟨i, z, hi, hsz, _⟩ := infoB_spec (tyB_info e3)
    refine ⟨(f.offset, i.size) :: ps, by simp [List.mapM_cons, hi, hp], fun j u hf => ?_⟩
    cases j with
    | zero =>
      simp only [fldT, Option.some.injEq] at hf
      subst hf
      simp [fldOff, e1, hsz]
    | succ j =>
      simp only [fldT] at hf
      have := hs j u hf
      simp only [List.getElem?_cons_succ, this, fldOff, Nat.add_assoc]
  | .unit, _ :: _, o, h => by simp [fldB] at h
  | .pair _ _, [], o, h => by simp [fldB] at h
  | .int _, fs, o, h => by cases fs <;> simp [fldB] at h
  | .bool, fs, o, h => by cases fs <;> simp [fldB] at h
  | .str, fs, o, h => by cases fs <;> simp [fldB] at h
  | .slice _ _, fs, o, h => by cases fs <;> simp [fldB] at h

/-- A struct's fields, as the table has them. -/
theorem struct_spec {P : Program} {t : Ty} {T : TypeId} (h : tyB P t T = true) (ha : t.isAgg = true) : ∃ fs, P.underlying T = some (.struct fs) ∧ fldB P t fs.toList 0 = true := by
  cases t with
  | unit =>
    simp only [tyB, Bool.and_eq_true, Bool.not_eq_true'] at h
    have h1 := h.1.1.1
    split at h1
    · rename_i fs hu
      have : fs.toList = [] := by simpa using h1
      exact ⟨fs, hu, by rw [this]; rfl⟩
    · cases h1
  | pair a b =>
    simp only [tyB, Bool.and_eq_true, Bool.not_eq_true'] at h
    have h1 := h.1.1.1
    split at h1
    · rename_i fs hu
      split at h1
      · rename_i f r hfs
        simp only [Bool.and_eq_true, beq_iff_eq, decide_eq_true_eq] at h1
        refine ⟨fs, hu, ?_⟩
        rw [hfs]
        simp only [fldB, Bool.and_eq_true, beq_iff_eq, decide_eq_true_eq, Nat.zero_add]
        exact h1
      · cases h1
    · cases h1
  | _ => simp [Ty.isAgg] at ha

theorem fillV_agg {t : Ty} : ∀ (ps : List (Nat × V)) (cs cs' : List V), fillV t cs ps = some cs' → ps ≠ [] → t.isAgg = true
  | [], cs, cs', h, hn => absurd rfl hn
  | (i, v) :: ps, cs, cs', h, hn => by
    simp only [fillV] at h
    split at h
    · rename_i u hu; cases t <;> cases i <;> simp [fldT] at hu <;> rfl
    · cases h

theorem build_sound {P : Program} {μ : Hd} {S : BSet} {w : World} {t : Ty} {T : TypeId} (hty : tyB P t T = true) (hagg : t.isAgg = true) {e : Env} {a : Act} (he : VRepL μ S w e a.tmps.toList) (ps : Array (Nat × Operand)) {vs : List V}
    (hf : fillV t (zeroL t) (ps.toList.map fun p => (p.1, getV e p.2)) = some vs) :
    ∃ cs, (Instr.build T (ps.map fun (i, x) => (i, a.eval x))).run P w = .ok (.agg cs) w ∧ VRepL μ S w vs cs.toList ∧ ∀ x ∈ cs.toList, x.oneCell' = true := by
  obtain ⟨fs, hu, hfld⟩ := struct_spec hty hagg
  obtain ⟨i, z, hi, hs, hb, hz, hzv, hzr, hz1⟩ := zero_of hty
  obtain ⟨places, hp, hpl⟩ := places_spec t fs.toList 0 hfld
  have hzl : (zeroL t).length = t.size := by rw [← VRepL.len _ _ (hzv μ S w)]; exact Rep.len t _ _ (hzr S w)
  obtain ⟨cells, hfill, hv, h1⟩ := fillV_rep (place := fun i => places.toArray[i]?) (fun i u hu => by simpa using hpl i u hu) _ (ps.toList.map fun p => (p.1, a.eval p.2)) _ z.cells vs hf (by simp) (by have := getVs_rep he (ps.toList.map (·.2)); simpa [Function.comp_def] using this) (hzv μ S w) hzl hz1
  refine ⟨cells, run_build w T _ cells ?_, hv, h1⟩
  unfold Program.built
  simp only [hi, hu, hz, hp]
  rw [← hfill]
  simp

end X
end Go.Proofs.YtjnfmjeiceiciaaGreat

/-
Operations that make new objects: the theorem.
-/
namespace Go.Proofs.YtjnfmjeiceiciaaGreat
namespace X
open Go Go.RowKit
set_option linter.unusedVariables false
set_option linter.unusedSimpArgs false
set_option linter.unnecessarySimpa false
set_option linter.unusedSectionVars false

/-! ### Data that are not borrowed -/

theorem Rep.flat {S S' : BSet} {w : World} : ∀ (t : Ty) (x : t.D) (cs : List Value), t.flat = true → Rep S w t x cs → Rep S' w t x cs
  | .int k, n, cs, _, h => h
  | .bool, n, cs, _, h => h
  | .str, n, cs, _, h => h
  | .unit, n, cs, _, h => h
  | .slice _ _, n, cs, hf, h => by simp [Ty.flat] at hf
  | .pair a b, x, cs, hf, h => by
    simp only [Ty.flat, Bool.and_eq_true] at hf
    obtain ⟨c1, c2, e1, h1, h2⟩ := h
    exact ⟨c1, c2, e1, Rep.flat a _ _ hf.1 h1, Rep.flat b _ _ hf.2 h2⟩

theorem rowOf_in {μ : Hd} {S : BSet} {w : World} {h : Hp} {E : TypeId} {e : Ty} {v : V} {l : List e.D} (hn : noRow v = true) (hr : rowOf h e v = some l) {u : Value} (hv : VRep μ S w v u) : Rep S w (.slice E e) l [u] := by
  cases v with
  | nils =>
    simp only [rowOf] at hr; cases hr
    simp only [VRep] at hv; subst hv
    exact ⟨none, 0, rfl, Nat.le_refl _, .inl rfl⟩
  | dat t x =>
    cases t with
    | slice E' t =>
      simp only [rowOf] at hr
      split at hr
      · rename_i hte
        subst hte
        cases hr
        have := vrep_slice.1 hv
        simpa only [Rep] using this
      · cases hr
    | _ => simp [rowOf] at hr
  | row o => simp [noRow] at hn
  | sub o e lo hi => simp [noRow] at hn
  | _ => simp [rowOf] at hr

theorem implode_in {μ : Hd} {S : BSet} {w : World} {h : Hp} : ∀ (t : Ty) (vs : List V) (us : List Value) (x : t.D) (vs' : List V) (h' : Hp),
    noRows vs = true → VRepL μ S w vs us → implode false t vs h = some (x, vs', h') → noRows vs' = true ∧ ∃ cs us', us = cs ++ us' ∧ Rep S w t x cs ∧ VRepL μ S w vs' us'
  | .unit, vs, us, x, vs', h', hn, hv, hi => by
    simp only [implode, Option.some.injEq, Prod.mk.injEq] at hi
    obtain ⟨_, rfl, rfl⟩ := hi
    exact ⟨hn, [], us, rfl, rfl, hv⟩
  | .pair a b, vs, us, x, vs', h', hn, hv, hi => by
    simp only [implode] at hi
    split at hi
    · rename_i x1 vs1 h1 e1
      obtain ⟨n1, c1, us1, rfl, r1, v1⟩ := implode_in a vs us x1 vs1 h1 hn hv e1
      have : h1 = h := by
        have := implode_same a vs h x1 vs1 h1 e1
        exact this
      subst this
      split at hi
      · rename_i x2 vs2 h2 e2
        obtain ⟨n2, c2, us2, rfl, r2, v2⟩ := implode_in b vs1 us1 x2 vs2 h2 n1 v1 e2
        simp only [Option.some.injEq, Prod.mk.injEq] at hi
        obtain ⟨rfl, rfl, rfl⟩ := hi
        exact ⟨n2, c1 ++ c2, us2, by simp, ⟨c1, c2, rfl, r1, r2⟩, v2⟩
      · cases hi
    · cases hi
  | .slice E e, [], us, x, vs', h', hn, hv, hi => by simp [implode] at hi
  | .slice E e, v :: vs, us, x, vs', h', hn, hv, hi => by
    simp only [noRows, Bool.and_eq_true] at hn
    simp only [implode] at hi
    split at hi
    · rename_i l hl
      simp only [Option.some.injEq, Prod.mk.injEq] at hi
      obtain ⟨rfl, rfl, rfl⟩ := hi
      simp only [VRepL] at hv
      obtain ⟨u, r, rfl, h1, h2⟩ := hv
      exact ⟨hn.2, [u], r, rfl, rowOf_in hn.1 hl h1, h2⟩
    · cases hi
  | .int k, [], us, x, vs', h', hn, hv, hi => by simp [implode] at hi
  | .int k, v :: vs, us, x, vs', h', hn, hv, hi => by
    simp only [noRows, Bool.and_eq_true] at hn
    simp only [VRepL] at hv
    obtain ⟨u, r, rfl, h1, h2⟩ := hv
    cases v with
    | dat t y =>
      cases t with
      | int k' =>
        simp only [implode] at hi
        split at hi
        · rename_i hk; subst hk
          simp only [Option.some.injEq, Prod.mk.injEq] at hi
          obtain ⟨rfl, rfl, rfl⟩ := hi
          exact ⟨hn.2, [u], r, rfl, by rw [vrep_int.1 h1]; rfl, h2⟩
        · cases hi
      | _ => simp [implode] at hi
    | _ => simp [implode] at hi
  | .bool, [], us, x, vs', h', hn, hv, hi => by simp [implode] at hi
  | .bool, v :: vs, us, x, vs', h', hn, hv, hi => by
    simp only [noRows, Bool.and_eq_true] at hn
    simp only [VRepL] at hv
    obtain ⟨u, r, rfl, h1, h2⟩ := hv
    cases v with
    | dat t y =>
      cases t with
      | bool =>
        simp only [implode, Option.some.injEq, Prod.mk.injEq] at hi
        obtain ⟨rfl, rfl, rfl⟩ := hi
        exact ⟨hn.2, [u], r, rfl, by rw [vrep_bool.1 h1]; rfl, h2⟩
      | _ => simp [implode] at hi
    | kb b =>
      simp only [implode, Option.some.injEq, Prod.mk.injEq] at hi
      obtain ⟨rfl, rfl, rfl⟩ := hi
      simp only [VRep] at h1
      exact ⟨hn.2, [u], r, rfl, by rw [h1]; rfl, h2⟩
    | _ => simp [implode] at hi
  | .str, [], us, x, vs', h', hn, hv, hi => by simp [implode] at hi
  | .str, v :: vs, us, x, vs', h', hn, hv, hi => by
    simp only [noRows, Bool.and_eq_true] at hn
    simp only [VRepL] at hv
    obtain ⟨u, r, rfl, h1, h2⟩ := hv
    cases v with
    | dat t y =>
      cases t with
      | str =>
        simp only [implode, Option.some.injEq, Prod.mk.injEq] at hi
        obtain ⟨rfl, rfl, rfl⟩ := hi
        exact ⟨hn.2, [u], r, rfl, by rw [vrep_str.1 h1]; rfl, h2⟩
      | _ => simp [implode] at hi
    | _ => simp [implode] at hi
 where
  implode_same : ∀ (t : Ty) (vs : List V) (h : Hp) (x : t.D) (vs' : List V) (h' : Hp), implode false t vs h = some (x, vs', h') → h' = h
  | .unit, vs, h, x, vs', h', hi => by
    simp only [implode, Option.some.injEq, Prod.mk.injEq] at hi
    exact hi.2.2.symm
  | .pair a b, vs, h, x, vs', h', hi => by
    simp only [implode] at hi
    split at hi
    · rename_i x1 vs1 h1 e1
      have := implode_same a vs h x1 vs1 h1 e1
      subst this
      split at hi
      · rename_i x2 vs2 h2 e2
        have := implode_same b vs1 _ x2 vs2 h2 e2
        simp only [Option.some.injEq, Prod.mk.injEq] at hi
        rw [← hi.2.2, this]
      · cases hi
    · cases hi
  | .slice E e, [], h, x, vs', h', hi => by simp [implode] at hi
  | .slice E e, v :: vs, h, x, vs', h', hi => by
    simp only [implode] at hi
    split at hi
    · simp only [Option.some.injEq, Prod.mk.injEq] at hi
      simpa using hi.2.2.symm
    · cases hi
  | .int k, [], h, x, vs', h', hi => by simp [implode] at hi
  | .int k, v :: vs, h, x, vs', h', hi => by
    cases v with
    | dat t y =>
      cases t with
      | int k' =>
        simp only [implode] at hi
        split at hi
        · simp only [Option.some.injEq, Prod.mk.injEq] at hi; exact hi.2.2.symm
        · cases hi
      | _ => simp [implode] at hi
    | _ => simp [implode] at hi
  | .bool, [], h, x, vs', h', hi => by simp [implode] at hi
  | .bool, v :: vs, h, x, vs', h', hi => by
    cases v with
    | dat t y =>
      cases t with
      | bool => simp only [implode, Option.some.injEq, Prod.mk.injEq] at hi; exact hi.2.2.symm
      | _ => simp [implode] at hi
    | kb b => simp only [implode, Option.some.injEq, Prod.mk.injEq] at hi; exact hi.2.2.symm
    | _ => simp [implode] at hi
  | .str, [], h, x, vs', h', hi => by simp [implode] at hi
  | .str, v :: vs, h, x, vs', h', hi => by
    cases v with
    | dat t y =>
      cases t with
      | str => simp only [implode, Option.some.injEq, Prod.mk.injEq] at hi; exact hi.2.2.symm
      | _ => simp [implode] at hi
    | _ => simp [implode] at hi

theorem explode_noRows : ∀ (t : Ty) (x : t.D), noRows (explode t x) = true
  | .unit, x => rfl
  | .pair a b, x => by
    have app : ∀ p q : List V, noRows p = true → noRows q = true → noRows (p ++ q) = true := by
      intro p q hp hq
      induction p with
      | nil => exact hq
      | cons v p ih => simp only [noRows, Bool.and_eq_true, List.cons_append] at *; exact ⟨hp.1, ih hp.2⟩
    exact app _ _ (explode_noRows a x.1) (explode_noRows b x.2)
  | .int _, x => rfl
  | .bool, x => rfl
  | .str, x => rfl
  | .slice _ _, x => rfl

theorem cells_noRows {v : V} (h : noRow v = true) : noRows (cellsOf v) = true := by
  cases v with
  | agg vs => simpa [cellsOf, noRow] using h
  | dat t x => exact explode_noRows t x
  | _ => simp [cellsOf, noRows, h]

/-- A datum that is not borrowed: it has no slices, or none of its rows is an object. -/
theorem toD_in {B : Base} {μ : Hd} {S : BSet} {w : World} {h : Hp} (I : Inv B μ S w h) {t : Ty} {v : V} {u : Value} {x : t.D} {h' : Hp} (hq : t.flat = true ∨ noRow v = true) (hv : VRep μ S w v u) (hi : toD false t v h = some (x, h')) :
    h' = h ∧ Rep S w t x u.cells.toList := by
  rcases hq with hq | hq
  · obtain ⟨h1, h2⟩ := toD_borrow I hv hi
    exact ⟨h1, Rep.flat t x _ hq h2⟩
  · have hb := toD_borrow I hv hi
    refine ⟨hb.1, ?_⟩
    obtain ⟨e1, hk⟩ := toD_known hi
    obtain ⟨_, cs, us', e2, r, v'⟩ := implode_in t _ _ x [] h' (cells_noRows hq) (hv.cells v u (fun hz => hk .undef (by rw [hz]; simp [cellsOf]) rfl)) e1
    simp only [VRepL] at v'
    subst v'
    rw [List.append_nil] at e2
    rw [e2]; exact r

theorem noRows_mem : ∀ {vs : List V}, noRows vs = true → ∀ v ∈ vs, noRow v = true
  | [], _, v, hv => by cases hv
  | x :: vs, h, v, hv => by
    simp only [noRows, Bool.and_eq_true] at h
    rcases List.mem_cons.1 hv with rfl | hv
    · exact h.1
    · exact noRows_mem h.2 v hv

/-! ### Rows of literals -/

theorem buildL_len {fz : Bool} {e : Ty} : ∀ (ps : List (Nat × V)) (n : Nat) (h : Hp) (l : List e.D) (h' : Hp), buildL fz e n ps h = some (l, h') → l.length = ps.length
  | [], n, h, l, h', hb => by simp only [buildL, Option.some.injEq, Prod.mk.injEq] at hb; simp [← hb.1]
  | (i, v) :: ps, n, h, l, h', hb => by
    simp only [buildL] at hb
    split at hb
    · split at hb
      · split at hb
        · rename_i l2 h2 hb2
          simp only [Option.some.injEq, Prod.mk.injEq] at hb
          rw [← hb.1, List.length_cons, buildL_len ps (n + 1) _ l2 h2 hb2, List.length_cons]
        · cases hb
      · cases hb
    · cases hb

/-- The parts go in one behind the other. -/
theorem buildL_sound {B : Base} {μ : Hd} {w : World} {fz : Bool} {e : Ty} : ∀ (ps : List (Nat × V)) (us : List (Nat × Value)) (n : Nat) (S : BSet) (h : Hp) (l : List e.D) (h' : Hp) (cells : Array Value), Inv B μ S w h →
    (fz = false → e.flat = true ∨ noRows (ps.map (·.2)) = true) → buildL fz e n ps h = some (l, h') → ps.map (·.1) = us.map (·.1) → VRepL μ S w (ps.map (·.2)) (us.map (·.2)) → cells.size = (n + ps.length) * e.size →
    ∃ S' cells', Inv B μ S' w h' ∧ Keeps S S' w w ∧ (fz = false → S' = S ∧ h' = h) ∧ Instr.fill (fun i => some (i * e.size, e.size)) cells us = some cells' ∧ cells'.size = cells.size ∧
      cells'.toList.take (n * e.size) = cells.toList.take (n * e.size) ∧ RepL (Rep S' w e) l (cells'.toList.drop (n * e.size))
  | [], us, n, S, h, l, h', cells, I, hq, hb, hk, hv, hs => by
    have : us = [] := by simpa using hk.symm
    subst this
    simp only [buildL, Option.some.injEq, Prod.mk.injEq] at hb
    obtain ⟨rfl, rfl⟩ := hb
    refine ⟨S, cells, I, Keeps.refl S w, fun _ => ⟨rfl, rfl⟩, rfl, rfl, rfl, ?_⟩
    simp only [RepL]
    exact List.drop_eq_nil_iff.2 (by simp only [List.length_nil, Nat.add_zero] at hs; simp [hs])
  | (i, v) :: ps, [], n, S, h, l, h', cells, I, hq, hb, hk, hv, hs => by simp at hk
  | (i, v) :: ps, (i', u) :: us, n, S, h, l, h', cells, I, hq, hb, hk, hv, hs => by
    simp only [List.map_cons, List.cons.injEq] at hk
    obtain ⟨hii, hk⟩ := hk
    subst hii
    simp only [List.map_cons, VRepL] at hv
    obtain ⟨u', r, he, hv1, hv2⟩ := hv
    simp only [List.cons.injEq] at he
    obtain ⟨rfl, rfl⟩ := he
    simp only [buildL] at hb
    split at hb
    · rename_i hin
      subst hin
      split at hb
      · rename_i x h1 hx
        split at hb
        · rename_i l2 h2 hb2
          simp only [Option.some.injEq, Prod.mk.injEq] at hb
          obtain ⟨rfl, rfl⟩ := hb
          -- the element
          obtain ⟨S1, I1, k1, hf1, hr1⟩ : ∃ S1, Inv B μ S1 w h1 ∧ Keeps S S1 w w ∧ (fz = false → S1 = S ∧ h1 = h) ∧ Rep S1 w e x u.cells.toList := by
            cases fz with
            | true => obtain ⟨S1, a1, a2, a3⟩ := toD_froze I hv1 hx; exact ⟨S1, a1, a2.keep, (fun h => by cases h), a3⟩
            | false =>
              have hq' : e.flat = true ∨ noRow v = true := (hq rfl).imp id fun hn => by simp only [List.map_cons, noRows, Bool.and_eq_true] at hn; exact hn.1
              obtain ⟨a1, a2⟩ := toD_in I hq' hv1 hx
              subst a1
              exact ⟨S, I, Keeps.refl S w, fun _ => ⟨rfl, rfl⟩, a2⟩
          have hus : u.cells.size = e.size := by rw [← Array.length_toList]; exact Rep.len e x _ hr1
          have hsz : (i + (ps.length + 1)) * e.size = i * e.size + e.size + ps.length * e.size := by simp [Nat.add_mul]; omega
          rw [List.length_cons, hsz] at hs
          obtain ⟨cells1, hf, hc1, hsz1⟩ := fill_cons (fun i => some (i * e.size, e.size)) cells i u us rfl hus (by omega)
          have hle : (i * e.size) ≤ cells.toList.length := by rw [Array.length_toList]; omega
          have ht : (cells.toList.take (i * e.size)).length = i * e.size := by rw [List.length_take]; omega
          obtain ⟨S2, cells2, I2, k2, hf2, hfill, hsz2, htake, hrep⟩ := buildL_sound ps us (i + 1) S1 h1 l2 h2 cells1 I1 (fun hz => (hq hz).imp id fun hn => by simp only [List.map_cons, noRows, Bool.and_eq_true] at hn; exact hn.2)
            hb2 hk (VRepL.keep (Hd.le.refl μ) k1 _ _ hv2) (by rw [hsz1, hs, Nat.add_mul, Nat.add_mul, Nat.one_mul])
          have e2 : (i + 1) * e.size = i * e.size + e.size := by rw [Nat.add_mul, Nat.one_mul]
          rw [e2] at htake hrep
          have hpre : cells1.toList.take (i * e.size + e.size) = cells.toList.take (i * e.size) ++ u.cells.toList := by
            rw [hc1]
            exact List.take_left' (by rw [List.length_append, ht, Array.length_toList, hus])
          have hpre2 : cells2.toList.take (i * e.size + e.size) = cells.toList.take (i * e.size) ++ u.cells.toList := htake.trans hpre
          refine ⟨S2, cells2, I2, k1.trans k2, fun hz => ?_, by rw [hf]; exact hfill, by rw [hsz2, hsz1], ?_, ?_⟩
          · obtain ⟨a1, a2⟩ := hf1 hz
            obtain ⟨b1, b2⟩ := hf2 hz
            exact ⟨b1.trans a1, b2.trans a2⟩
          · have := congrArg (List.take (i * e.size)) hpre2
            rw [List.take_take, Nat.min_eq_left (by omega)] at this
            rw [this, List.take_append_of_le_length (by omega), List.take_take, Nat.min_self]
          · refine ⟨u.cells.toList, cells2.toList.drop (i * e.size + e.size), ?_, Rep.keep k2 e x _ hr1, hrep⟩
            have h3 := List.take_append_drop (i * e.size + e.size) cells2.toList
            rw [hpre2, List.append_assoc] at h3
            have h4 : cells2.toList.drop (i * e.size) = (List.take (i * e.size) cells.toList ++ (u.cells.toList ++ List.drop (i * e.size + e.size) cells2.toList)).drop (i * e.size) := by rw [h3]
            exact h4.trans (List.drop_left' ht)
        · cases hb
      · cases hb
    · cases hb

end X
end Go.Proofs.YtjnfmjeiceiciaaGreat

/-
Operations that make new objects: the theorem.
-/
namespace Go.Proofs.YtjnfmjeiceiciaaGreat
namespace X
open Go Go.RowKit
set_option linter.unusedVariables false
set_option linter.unusedSimpArgs false
set_option linter.unnecessarySimpa false
set_option linter.unusedSectionVars false

theorem madeCells_flat (z : Array Value) : ∀ n : Nat, (madeCells z (n * z.size)).toList = (List.replicate n z.toList).flatten
  | 0 => by simp [madeCells]
  | n + 1 => by
    have ih := madeCells_flat z n
    simp only [madeCells, Array.toList_map, Array.toList_range] at ih ⊢
    rw [Nat.add_mul, Nat.one_mul, List.range_add, List.map_append, ih, List.replicate_succ', List.flatten_append]
    congr 1
    rw [List.map_map]
    simp only [List.flatten_cons, List.flatten_nil, List.append_nil]
    apply List.ext_getElem?
    intro j
    by_cases hj : j < z.size
    · simp [hj, Nat.mod_eq_of_lt hj]
    · simp [hj, List.getElem?_eq_none (Nat.le_of_not_lt hj)]

theorem made_rep {S : BSet} {w : World} {e : Ty} {z : Value} (hz : Rep S w e e.zero z.cells.toList) (n : Nat) : RepL (Rep S w e) (List.replicate n e.zero) (madeCells z.cells (n * e.size)).toList := by
  have : e.size = z.cells.size := by rw [← Array.length_toList]; exact (Rep.len e _ _ hz).symm
  rw [this, madeCells_flat]
  exact RepL.rep _ _ hz n

theorem run_alloc {P : Program} {w : World} {T : TypeId} {i : TypeInfo} {z : Value} (hi : P.info? T = some i) (hz : i.zero = some z) :
    (Instr.alloc T true (.tuple #[])).run P w = .ok (.pointer (some ⟨w.heap.size, 0, none⟩)) (w.alloc (.cells z.cells T)) := by
  simp [Instr.alloc, zeroValue, typeInfo, hi, hz, newVar, newRow]

theorem run_box {P : Program} {w : World} (T : TypeId) (v : Value) : (Instr.box T v).run P w = .ok (.pointer (some ⟨w.heap.size, 0, none⟩)) (w.alloc (.cells v.cells T)) := by
  simp [Instr.box, newVar, newRow]

theorem fill_pairs (ps : Array (Nat × Operand)) (a : Act) : (ps.map fun (i, x) => (i, a.eval x)).toList = ps.toList.map fun p => (p.1, a.eval p.2) := by simp

theorem run_buildSlice {P : Program} {w : World} {T E : TypeId} {i : TypeInfo} {z : Value} {n : Nat} {parts : Array (Nat × Value)} {cells : Array Value} (hu : P.underlying T = some (.slice E)) (hi : P.info? E = some i) (hz : i.zero = some z)
    (hn : n * i.size ≤ 16777216) (hf : ∀ cs : Array Value, cs.size = n * i.size → (n * i.size = 0 ∨ cs = madeCells z.cells (n * i.size)) → Instr.fill (fun j => some (j * i.size, i.size)) cs parts.toList = some cells) :
    (Instr.buildSlice T n parts).run P w = .ok (.slice (some ⟨w.heap.size, 0, none⟩) n n) (w.alloc (.cells cells E)) := by
  have h1 : ¬ (n * i.size > 2 ^ 24) := by omega
  by_cases h0 : n * i.size = 0
  · have hf' := hf #[] (by simp [h0]) (.inl h0)
    simp [Instr.buildSlice, run_underlying hu, run_size w hi, h0, newRow, hf', Array.range_zero']
  · have hf' := hf (madeCells z.cells (n * i.size)) (size_madeCells _ _) (.inr rfl)
    simp only [madeCells] at hf'
    simp [Instr.buildSlice, run_underlying hu, run_size w hi, h0, h1, newRow, zeroValue, typeInfo, hi, hz, hf']

/-- A row of a literal: its cells, whatever is told of the heap behind. -/
theorem buildSlice_run {P : Program} {B : Base} {μ : Hd} {S : BSet} {w : World} {h : Hp} (I : Inv B μ S w h) {T E : TypeId} {el : Ty} (hty : tyB P (.slice E el) T = true) {fz : Bool} {ps : Array (Nat × Operand)} {n : Nat} {e : Env} {a : Act}
    (he : VRepL μ S w e a.tmps.toList) (hn : n = ps.size ∧ n ≤ 4096 ∧ el.size ≤ 4096) (hq : fz = false → el.flat = true ∨ noRows (ps.toList.map fun p => getV e p.2) = true) {l : List el.D} {h' : Hp}
    (hb : buildL fz el 0 (ps.toList.map fun p => (p.1, getV e p.2)) h = some (l, h')) :
    ∃ S' cells, Inv B μ S' w h' ∧ Keeps S S' w w ∧ (fz = false → S' = S ∧ h' = h) ∧ RepL (Rep S' w el) l cells.toList ∧ l.length = n ∧
      (Instr.buildSlice T n (ps.map fun (i, x) => (i, a.eval x))).run P w = .ok (.slice (some ⟨w.heap.size, 0, none⟩) n n) (w.alloc (.cells cells E)) := by
  obtain ⟨hu, hel⟩ := tyB_slice hty
  obtain ⟨i, z, hi, hs, hby, hz, _, _, _⟩ := zero_of hel
  have hlen : l.length = n := by
    have := buildL_len _ _ _ _ _ hb
    rw [this, List.length_map, Array.length_toList, hn.1]
  have hsound := fun (cells : Array Value) (hsz : cells.size = n * el.size) => buildL_sound (B := B) (μ := μ) (w := w) (fz := fz) (e := el) _ (ps.toList.map fun p => (p.1, a.eval p.2)) 0 S h l h' cells I
    (fun hz => (hq hz).imp id fun hn => by simpa [Function.comp_def] using hn) hb (by simp) (by have := getVs_rep he (ps.toList.map (·.2)); simpa [Function.comp_def] using this) (by rw [hsz]; simp [hn.1])
  obtain ⟨S', cells, I', k, hf, hfill, hsz, _, hrep⟩ := hsound (madeCells z.cells (n * el.size)) (size_madeCells _ _)
  rw [Nat.zero_mul, List.drop_zero] at hrep
  refine ⟨S', cells, I', k, hf, hrep, hlen, run_buildSlice hu hi hz (by rw [hs]; exact Nat.mul_le_mul hn.2.1 hn.2.2) fun cs hcs hor => ?_⟩
  rw [hs] at hcs hor ⊢
  rw [fill_pairs]
  rcases hor with h0 | rfl
  · -- no cells at all
    have e1 : cs = madeCells z.cells (n * el.size) := by
      have h1 : cs = #[] := Array.eq_empty_of_size_eq_zero (by rw [hcs, h0])
      have h2 : madeCells z.cells (n * el.size) = #[] := Array.eq_empty_of_size_eq_zero (by rw [size_madeCells, h0])
      rw [h1, h2]
    rw [e1]; exact hfill
  · exact hfill

theorem opN_sound {P : Program} {tb : Tabs} (ht : TabOK P tb.tt) {B : Base} {μ : Hd} {S : BSet} {w : World} {h : Hp} (I : Inv B μ S w h) {e : Env} {a : Act} (he : VRepL μ S w e a.tmps.toList) {o : Oper} {v : V} {hs : Hp}
    (hr : (opN tb o.op e h).run = some (v, hs)) : OpNew P B o a μ S w h v hs := by
  have quiet : ((opQ tb o.op e h).map fun v => (v, ([] : Hp))).run = some (v, hs) → OpNew P B o a μ S w h v hs := by
    intro hq
    rw [Tr.run_map] at hq
    cases hq' : (opQ tb o.op e h).run with
    | none => rw [hq'] at hq; cases hq
    | some v' =>
      rw [hq'] at hq
      cases hq
      obtain ⟨u, h1, h2⟩ := opQ_sound ht I he hq'
      exact OpNew.of_run h1 (NewSt.quiet I h2)
  obtain ⟨dst, op, type, pos, after, guard⟩ := o
  simp only at hr quiet
  have val : ∀ {s : Sem Value} {u : Value} {w' : World}, s.run P w = .ok u w' → (do pure (Next.value (← s)) : Sem Next).run P w = .ok (.value u) w' := fun h => by simp [h]
  cases op with
  | alloc T =>
    simp only [opN] at hr
    split at hr
    · rename_i n E el hT
      cases hr
      have htb := ht T
      rw [hT] at htb
      simp only [tiB, Bool.and_eq_true, decide_eq_true_eq] at htb
      obtain ⟨⟨⟨⟨g1, g2⟩, g3⟩, g4⟩, g5⟩ := htb
      split at g5
      · rename_i i hi
        simp only [Bool.and_eq_true, beq_iff_eq] at g5
        obtain ⟨g6, g7⟩ := g5
        split at g7
        · rename_i z hz
          simp only [Bool.and_eq_true, beq_iff_eq, List.all_eq_true, List.mem_range] at g7
          obtain ⟨⟨g8, g9⟩, g10⟩ := g7
          have hk := more_alloc w z.cells T
          have hrep : ∀ w0 : World, RepL (Rep S w0 el) (List.replicate n el.zero) z.cells.toList := fun w0 => zeros_rep el n _ g9 fun j hj => by
            have := g10 j hj
            split at this
            · assumption
            · cases this
          have ho : ORep (μ.put h.length (.pointer (some ⟨w.heap.size, 0, none⟩))) S (w.alloc (.cells z.cells T)) (.arr el (List.replicate n el.zero)) (.pointer (some ⟨w.heap.size, 0, none⟩)) :=
            ⟨_, z.cells, T, rfl, alloc_new w _, hrep _⟩
          refine OpNew.of_run (val (run_alloc hi hz)) (NewSt.one I hk ho (fun b hb => by simp [ownB] at hb; omega) ?_)
          simp only [VRep]
          exact ⟨_, Hd.put_same, rfl⟩
        · cases g7
      · cases g5
    · rename_i u hT
      cases hr
      obtain ⟨i, z, hi, hs, hby, hz, hzv, hzr, hz1⟩ := zero_of (ht.d hT)
      exact OpNew.of_run (val (run_alloc hi hz)) (NewSt.var I T (hzv μ S w) hz1)
    · cases hr
  | box T x =>
    have hx := getV_rep he x
    simp only [opN] at hr
    have fin : okV (getV e x) = true → OpNew P B ⟨dst, .box T x, type, pos, after, guard⟩ a μ S w h (.cp h.length 0) [.cells (cellsOf (getV e x))] := fun hok =>
      OpNew.of_run (val (run_box T _)) (NewSt.var I T (hx.cells _ _ (by intro hz; rw [hz] at hok; cases hok)) (hx.cells1 _ _ hok))
    split at hr
    · split at hr
      · rename_i hc
        cases hr
        exact fin hc.2
      · cases hr
    · split at hr
      · rename_i hc
        cases hr
        exact fin hc.2
      · cases hr
    · cases hr
  | build T ps =>
    simp only [opN] at hr
    split at hr
    · rename_i t hT
      split at hr
      · rename_i hag
        split at hr
        · rename_i vs hf
          cases hr
          obtain ⟨cs, hrun, hv, h1⟩ := build_sound (ht.d hT) hag he ps hf
          refine OpNew.of_run (val hrun) (NewSt.quiet I ?_)
          simp only [VRep]
          exact ⟨cs, rfl, hv, h1⟩
        · cases hr
      · cases hr
    · rename_i n E el hT
      split at hr
      · rename_i hps
        cases hr
        have hps' : ps = #[] := Array.eq_empty_of_size_eq_zero hps
        subst hps'
        have htb := ht T
        rw [hT] at htb
        simp only [tiB, Bool.and_eq_true, decide_eq_true_eq] at htb
        obtain ⟨⟨⟨⟨g1, g2⟩, g3⟩, g4⟩, g5⟩ := htb
        split at g1
        · rename_i n' E' hu
          simp only [Bool.and_eq_true, beq_iff_eq] at g1
          obtain ⟨rfl, rfl⟩ := g1
          obtain ⟨ie, ze, hie, _⟩ := zero_of g2
          split at g5
          · rename_i i hi
            simp only [Bool.and_eq_true, beq_iff_eq] at g5
            obtain ⟨g6, g7⟩ := g5
            split at g7
            · rename_i z hz
              simp only [Bool.and_eq_true, beq_iff_eq, List.all_eq_true, List.mem_range] at g7
              obtain ⟨⟨g8, g9⟩, g10⟩ := g7
              have hzs : ∀ j, j < n → zeroB el ((z.cells.toList.drop (j * el.size)).take el.size) = some [] := fun j hj => by
                have := g10 j hj
                split at this
                · assumption
                · cases this
              have hrun : (Instr.build T #[]).run P w = .ok (.agg z.cells) w := run_build w T #[] z.cells (by simp [Program.built, hi, hu, hz, hie, Instr.fill])
              refine OpNew.of_run (val (by simpa using hrun)) (NewSt.quiet I ?_)
              simp only [VRep]
              refine ⟨_, rfl, ?_, RepL.one _ _ (zeros_rep (S := S) (w := w) el n _ g9 hzs)⟩
              have key : ∀ (n : Nat) (l : List Value), l.length = n * el.size → (∀ j, j < n → zeroB el ((l.drop (j * el.size)).take el.size) = some []) → VRepL μ S w (List.replicate n (zeroL el)).flatten l := by
                intro n
                induction n with
                | zero => intro l hl _; simp at hl; simp [hl, VRepL]
                | succ n ih =>
                  intro l hl hz
                  have h0 := hz 0 (by omega)
                  simp only [Nat.zero_mul, List.drop_zero] at h0
                  obtain ⟨c, hc, hr⟩ := zeroB_vrep (μ := μ) (S := S) (w := w) el _ _ h0
                  rw [List.append_nil] at hc
                  have h2 := ih (l.drop el.size) (by rw [List.length_drop, hl, Nat.add_mul]; omega) fun j hj => by
                    have := hz (j + 1) (by omega)
                    rw [List.drop_drop, show el.size + j * el.size = (j + 1) * el.size by rw [Nat.add_mul, Nat.one_mul, Nat.add_comm]]
                    exact this
                  have := VRepL.app _ _ _ _ hr h2
                  rw [← hc, List.take_append_drop] at this
                  simpa [List.replicate_succ] using this
              exact key n _ g9 hzs
            · cases g7
          · cases g5
        · cases g1
      · cases hr
    · cases hr
  | buildSlice T n ps =>
    simp only [opN] at hr
    split at hr
    · rename_i E el hT
      split at hr
      · rename_i hc
        obtain ⟨c1, c2, c3, c4⟩ := hc
        split at hr
        · rename_i l h' hb
          cases hr
          obtain ⟨S', cells, I', k, hf, hrep, hlen, hrun⟩ := buildSlice_run (a := a) I (ht.d hT) (fz := false) he ⟨c1, c2, c3⟩ (fun _ => by simpa [Bool.or_eq_true] using c4) hb
          obtain ⟨rfl, rfl⟩ := hf rfl
          have hm : l.length ≤ maxLen := by rw [hlen]; simp only [maxLen]; omega
          have := NewSt.row I (E := E) hrep hm
          rw [hlen] at this
          exact OpNew.of_run (val hrun) this
        · cases hr
      · cases hr
    · cases hr
  | makeSlice T l c =>
    simp only [opN] at hr
    split at hr
    · rename_i E el k n k' m hT hl hc
      rcases Tr.run_ite hr with ⟨hb, hr⟩ | ⟨_, hr⟩
      · cases hr
        simp only [inR, Bool.and_eq_true, decide_eq_true_eq] at hb
        obtain ⟨hnm, hb1, hb2⟩ := hb
        subst hnm
        obtain ⟨hu, hel⟩ := tyB_slice (ht.d hT)
        obtain ⟨i, z, hi, hs, hby, hz, _, hzr, _⟩ := zero_of hel
        have hxl := getV_rep he l
        have hxc := getV_rep he c
        rw [hl] at hxl
        rw [hc] at hxc
        have hb1' : @LE.le Int _ 0 n := hb1
        have hb2' : @LE.le Int _ n 4294967296 := hb2
        have hbytes : (i.bytes : Int) * n ≤ 281474976710656 := by
          have h1 : (i.bytes : Int) * n ≤ 4096 * n := Int.mul_le_mul_of_nonneg_right (by omega) hb1'
          omega
        have hrun := run_make (P := P) w T E i z hu hi hz k k' n n hb1' (Int.le_refl _) hbytes (by omega)
        have hrow := NewSt.row I (E := E) (e := el) (l := List.replicate n.toNat el.zero) (cs := madeCells z.cells (n.toNat * el.size)) (made_rep (hzr S w) _) (by simp only [List.length_replicate, maxLen]; omega)
        simp only [List.length_replicate] at hrow
        rw [hs] at hrun
        exact OpNew.of_run (val (by rw [vrep_int.1 hxl, vrep_int.1 hxc]; exact hrun)) hrow
      · cases hr
    · cases hr
  | _ => exact quiet hr

end X
end Go.Proofs.YtjnfmjeiceiciaaGreat
