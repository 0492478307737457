/- SiteAsks answers true for every input whose arguments hold together at most 1048576 values and letters, and leaves its arguments as they were; the listed package-level tables hold what the program's text lays. -/
import Derived.Orders
set_option linter.unusedVariables false
set_option linter.unusedSimpArgs false
set_option linter.unusedSectionVars false
set_option linter.unnecessarySimpa false
set_option linter.constructorNameAsVariable false
/- AS, part 1: an executable, deterministic evaluator of the translated code over values that carry what slices hold (definitions only). -/
namespace Go.Proofs.YtognccpmaljamaaGreatDoor.Sa
open Go

inductive AVal where
  | undef
  | bool (b : Bool)
  | int (k : IntKind) (n : Int)
  | str (s : List UInt8)
  | nilp
  | ptr (b o : Nat)
  | rptr (cs : List AVal)
  | eref (t i : Nat)          -- the address of a cell of what slot t holds
  | sref (t : Nat)            -- the slice that slot t holds
  | ints (u : Bool) (k : IntKind) (l : List Int)
  | strs (u : Bool) (l : List (List UInt8))
  | strs2 (u : Bool) (l : List (List UInt8 × List UInt8))
  | rows (u : Bool) (z : Nat) (l : List (List AVal))
  | slen (n : Nat)
  | agg (cs : List AVal)
  | tup (vs : List AVal)
  | fn (f : Nat) (caps : List AVal)
  | nilf
  | nili
  deriving Inhabited

/-- The greatest length that is followed. -/
noncomputable def LIM : Nat := 2147483648

/-- What kind of slice a []E is. -/
inductive SK where
  | ints (k : IntKind) | strs | strs2 | rows (z : Nat)
  deriving Inhabited

inductive TK where
  | int (k : IntKind) | bool | str | ptr | slice (e : Nat) (sk : SK)
  | struct (fs : List (Nat × Nat × Nat))      -- offset, size, type
  | array (n e z : Nat)
  | func | ifc | tuple | other
  deriving Inhabited

structure TD where
  k : TK
  size : Nat
  bytes : Nat
  zero : List AVal
  deriving Inhabited

inductive TT where
  | leaf
  | node (l : TT) (k : Nat) (d : TD) (r : TT)
  deriving Inhabited

noncomputable def TT.find (x : TT) (t : Nat) : Option TD := TT.rec (motive := fun _ => Option TD) none (fun _ k d _ il ir => Bool.rec (motive := fun _ => Option TD) (Bool.rec (motive := fun _ => Option TD) ir il (Nat.blt t k)) (some d) (Nat.beq t k)) x
theorem TT.find_node (l : TT) (k : Nat) (d : TD) (r : TT) (t : Nat) : (TT.node l k d r).find t = (match Nat.beq t k with
    | true => some d
    | false => match Nat.blt t k with
      | true => l.find t
      | false => r.find t) := by
  show Bool.rec (motive := fun _ => Option TD) (Bool.rec (motive := fun _ => Option TD) (r.find t) (l.find t) (Nat.blt t k)) (some d) (Nat.beq t k) = _
  cases Nat.beq t k <;> cases Nat.blt t k <;> rfl

noncomputable def SK.wid : SK → Nat
  | .ints _ => 1
  | .strs => 1
  | .strs2 => 2
  | .rows z => z

/-! ### lists, as the kernel reckons them at little cost -/
noncomputable def lset (l : List AVal) : Nat → AVal → List AVal := List.rec (motive := fun _ => Nat → AVal → List AVal) (fun _ _ => []) (fun a l ih t v => Nat.rec (motive := fun _ => List AVal) (v :: l) (fun t' _ => a :: ih t' v) t) l
noncomputable def lget (l : List AVal) : Nat → AVal := List.rec (motive := fun _ => Nat → AVal) (fun _ => .undef) (fun a _ ih t => Nat.rec (motive := fun _ => AVal) a (fun t' _ => ih t') t) l
/-- cells of v laid at o. -/
noncomputable def splice (o : Nat) (vs cs : List AVal) : List AVal := List.rec (motive := fun _ => Nat → List AVal → List AVal) (fun _ vs => vs) (fun a l ih o vs => Nat.rec (motive := fun _ => List AVal) (List.rec (motive := fun _ => List AVal) (a :: l) (fun v vs' _ => v :: ih 0 vs') vs) (fun o' _ => a :: ih o' vs) o) cs o vs

@[simp] theorem lset_eq (l : List AVal) : ∀ (t : Nat) (v : AVal), lset l t v = l.set t v := by
  induction l with
  | nil => intro t v; rfl
  | cons a l ih =>
    intro t v
    cases t with
    | zero => rfl
    | succ t => exact congrArg (a :: ·) (ih t v)
@[simp] theorem lget_eq (l : List AVal) : ∀ t : Nat, lget l t = l.getD t .undef := by
  induction l with
  | nil => intro t; rfl
  | cons a l ih =>
    intro t
    cases t with
    | zero => rfl
    | succ t => exact ih t
theorem splice_eq (cs : List AVal) : ∀ (o : Nat) (vs : List AVal), splice o vs cs = cs.take o ++ vs ++ cs.drop (o + vs.length) := by
  induction cs with
  | nil => intro o vs; simp; rfl
  | cons a l ih =>
    intro o vs
    cases o with
    | zero =>
      cases vs with
      | nil => rfl
      | cons v vs =>
        have := ih 0 vs
        simp only [List.take_zero, List.nil_append, Nat.zero_add] at this
        simp only [List.take_zero, List.nil_append, Nat.zero_add, List.length_cons, List.drop_succ_cons, List.cons_append]
        exact congrArg (v :: ·) this
    | succ o =>
      have := ih o vs
      rw [show o + 1 + vs.length = o + vs.length + 1 by omega]
      simp only [List.take_succ_cons, List.drop_succ_cons, List.cons_append]
      exact congrArg (a :: ·) this
theorem lget_of {l : List AVal} {t : Nat} {a : AVal} (h : l[t]? = some a) : lget l t = a := by simp [List.getD, h]

/-! ### values -/
noncomputable def SK.empty (u : Bool) : SK → AVal
  | .ints k => .ints u k []
  | .strs => .strs u []
  | .strs2 => .strs2 u []
  | .rows z => .rows u z []

mutual
noncomputable def AVal.fz : AVal → AVal
  | .ints _ k l => .ints false k l
  | .strs _ l => .strs false l
  | .strs2 _ l => .strs2 false l
  | .rows _ z l => .rows false z l
  | .eref _ _ => .undef
  | .sref _ => .undef
  | .agg cs => .agg (fzL cs)
  | .tup vs => .tup (fzL vs)
  | x => x
noncomputable def fzL : List AVal → List AVal
  | [] => []
  | a :: l => a.fz :: fzL l
end

mutual
noncomputable def AVal.pure : AVal → Bool
  | .ints u _ _ => !u
  | .strs u _ => !u
  | .strs2 u _ => !u
  | .rows u _ _ => !u
  | .agg cs => pureL cs
  | .tup vs => pureL vs
  | .eref _ _ => false
  | .sref _ => false
  | _ => true
noncomputable def pureL : List AVal → Bool
  | [] => true
  | a :: l => match a.pure with | true => pureL l | false => false
end

noncomputable def AVal.len? : AVal → Option Nat
  | .ints _ _ l => some l.length
  | .strs _ l => some l.length
  | .strs2 _ l => some l.length
  | .rows _ _ l => some l.length
  | .slen n => some n
  | .str s => some s.length
  | _ => none

mutual
noncomputable def AVal.lens : AVal → AVal
  | .ints _ _ l => .slen l.length
  | .strs _ l => .slen l.length
  | .strs2 _ l => .slen l.length
  | .rows _ _ l => .slen l.length
  | .agg cs => .agg (lensL cs)
  | .tup cs => .tup (lensL cs)
  | .eref _ _ => .undef
  | .sref _ => .undef
  | x => x
noncomputable def lensL : List AVal → List AVal
  | [] => []
  | a :: l => a.lens :: lensL l
end

noncomputable def AVal.lenS? : AVal → Option Nat
  | .slen _ => none
  | v => v.len?

/-- An element's cells, of a slice. -/
noncomputable def AVal.elems : AVal → Option (List (List AVal))
  | .ints _ k l => some (l.map fun x => [.int k x])
  | .strs _ l => some (l.map fun x => [.str x])
  | .strs2 _ l => some (l.map fun x => [.str x.1, .str x.2])
  | .rows _ _ l => some l
  | _ => none

/-- Elements' width. -/
noncomputable def AVal.wid : AVal → Nat
  | .ints _ _ _ => 1
  | .strs _ _ => 1
  | .strs2 _ _ => 2
  | .rows _ z _ => z
  | _ => 0

noncomputable def AVal.isSl : AVal → Bool
  | .ints _ _ _ => true
  | .strs _ _ => true
  | .strs2 _ _ => true
  | .rows _ _ _ => true
  | _ => false

/-- Does a value fit a type, as far as lengths and places of elements go? -/
noncomputable def fits (d : Option TD) (v : AVal) : Bool :=
  match d with
  | none => false
  | some d => match d.k with
    | .str => (match v with | .str _ => true | _ => false)
    | .slice _ sk => (match v with | .slen _ => true | _ => match v.isSl with | true => Nat.beq v.wid sk.wid && Nat.blt 0 v.wid | false => false)
    | _ => false

noncomputable def AVal.cells : AVal → List AVal
  | .agg cs => cs
  | v => [v]

noncomputable def AVal.isRef : AVal → Bool
  | .eref _ _ => true
  | .sref _ => true
  | _ => false

/-- Can it lie in memory, and is it known how wide it is? -/
noncomputable def AVal.st : AVal → Bool
  | .undef => false
  | .tup _ => false
  | .eref _ _ => false
  | .sref _ => false
  | _ => true

/-- l[i], i a whole number. -/
noncomputable def idx {α : Type} (l : List α) (i : Int) : Option α := if 0 ≤ i then l[i.toNat]? else none

noncomputable def toB (n : Int) : UInt8 := UInt8.ofNat n.toNat
noncomputable def ofB (c : UInt8) : Int := (c.toNat : Int)

/-! ### the state -/
structure S where
  env : List AVal
  heap : List (List AVal)
  deriving Inhabited

abbrev Res := AVal × List (List AVal)
abbrev KV := AVal → S → Option Res
/-- What calls come to: the function, the arguments, the blocks that they lead to, what goes on. -/
abbrev Oracle := Nat → List AVal → List (List AVal) → (AVal → List (List AVal) → Option Res) → Option Res

/-- Is it a slice of one's own? -/
noncomputable def AVal.uniq : AVal → Bool
  | .ints u _ _ => u
  | .strs u _ => u
  | .strs2 u _ => u
  | .rows u _ _ => u
  | _ => false

/-- What refers to slot t is forgotten. -/
noncomputable def unref1 (t : Nat) : AVal → AVal
  | .eref u i => match Nat.beq u t with | true => .undef | false => .eref u i
  | .sref u => match Nat.beq u t with | true => .undef | false => .sref u
  | v => v

noncomputable def unref (t : Nat) : List AVal → List AVal
  | [] => []
  | v :: l => unref1 t v :: unref t l

noncomputable def S.raw (s : S) (t : Nat) (v : AVal) : S := { s with env := lset s.env t v }
noncomputable def S.set (s : S) (t : Nat) (v : AVal) : S := match (lget s.env t).uniq with
  | true => { s with env := lset (unref t s.env) t (unref1 t v) }
  | false => { s with env := lset s.env t v }
noncomputable def S.put (s : S) (dst : Option Nat) (v : AVal) : S := match dst with | some d => s.set d v | none => s

/-- The sub-list of n cells from o on; all must be there. -/
noncomputable def sub (o n : Nat) (cs : List AVal) : Option (List AVal) :=
  match Nat.ble (o + n) cs.length with
  | true => some ((cs.drop o).take n)
  | false => none

noncomputable def TD.agg? (d : TD) : Bool := match d.k with | .struct _ => true | .array _ _ _ => true | _ => false

/-- A value out of cells. -/
noncomputable def loadC (d : TD) (cs : List AVal) (o : Nat) : Option AVal :=
  match d.agg? with
  | true => (sub o d.size cs).map .agg
  | false => cs[o]?

noncomputable def ofV (d : Option TD) : Value → AVal
  | .bool b => .bool b
  | .int k n => .int k n
  | .string s => .str s.data.toList
  | .pointer none => .nilp
  | .slice none 0 0 => match d with
    | some d => match d.k with
      | .slice _ sk => sk.empty true
      | _ => .undef
    | none => .undef
  | .nilIface => .nili
  | .nilFunc => .nilf
  | _ => .undef

noncomputable def S.rdo (s : S) (d : Option TD) : Operand → AVal
  | .tmp t => lget s.env t
  | .const v => ofV d v
  | .global _ => .undef
  | .func f => .fn f []

noncomputable def S.drop (s : S) : Operand → S
  | .tmp t => s.set t .undef
  | _ => s

/-- What a reference refers to. -/
noncomputable def cut {α : Type} (l : List α) (lo hi : Nat) : List α := (l.drop lo).take (hi - lo)

noncomputable def cutA (x : AVal) (lo hi : Nat) : AVal :=
  match x with
  | .ints u k l => .ints u k (cut l lo hi)
  | .strs u l => .strs u (cut l lo hi)
  | .strs2 u l => .strs2 u (cut l lo hi)
  | .rows u z l => .rows u z (cut l lo hi)
  | .str s => .str (cut s lo hi)
  | _ => .undef

noncomputable def S.der (s : S) : AVal → AVal
  | .sref t => lget s.env t
  | v => v

/-- An operand, read: 0 as it is (nothing of one's own in it), 1 taken, 2 taken and laid open, 3 its length alone. -/
noncomputable def S.rd (s : S) (d : Option TD) (m : Nat) (x : Operand) (K : KV) : Option Res :=
  match m with
  | 0 => match (s.rdo d x).pure with
    | true => K (s.rdo d x) s
    | false => match x with
      | .const _ => K (s.rdo d x) s
      | _ => none
  | 1 => K (s.rdo d x) (s.drop x)
  | 2 => K (s.rdo d x).fz (s.drop x)
  | 6 => match (s.rdo d x).pure with
    | true => K (s.rdo d x) s
    | false => match x with
      | .tmp t => match s.rdo d x with
        | .sref u => K (.sref u) s
        | v => match v.uniq with
          | true => K (.sref t) s
          | false => none
      | _ => none
  | _ => K (s.rdo d x).lens s

/-! ### operators -/
noncomputable def bits2 (op : BinOp) (k : IntKind) (x y : Int) : Int :=
  let a := BitVec.ofInt k.bits x
  let b := BitVec.ofInt k.bits y
  match op with
  | .and => k.wrap (a &&& b).toNat
  | .or => k.wrap (a ||| b).toNat
  | .xor => k.wrap (a ^^^ b).toNat
  | _ => k.wrap (a &&& ~~~b).toNat

noncomputable def shl2 (k : IntKind) (x y : Int) : Int := k.wrap (x * 2 ^ (min y.toNat k.bits))
noncomputable def shr2 (k : IntKind) (x y : Int) : Int := x.fdiv (2 ^ (min y.toNat k.bits))

noncomputable def strLess : List UInt8 → List UInt8 → Bool := Go.Op.bytesLess

/-- A guard: what is beyond it is followed only if it holds. -/
noncomputable def gd (c : Bool) (x : Option Res) : Option Res := match c with | true => x | false => none

noncomputable def binI (op : BinOp) (k : IntKind) (a b : Int) (K : AVal → Option Res) : Option Res :=
  match op with
  | .add => K (.int k (k.wrap (a + b)))
  | .sub => K (.int k (k.wrap (a - b)))
  | .mul => K (.int k (k.wrap (a * b)))
  | .quo => gd (!(b == 0)) (K (.int k (k.wrap (a.tdiv b))))
  | .rem => gd (!(b == 0)) (K (.int k (a.tmod b)))
  | .and => K (.int k (bits2 .and k a b))
  | .or => K (.int k (bits2 .or k a b))
  | .xor => K (.int k (bits2 .xor k a b))
  | .andNot => K (.int k (bits2 .andNot k a b))
  | .eql => K (.bool (a == b))
  | .neq => K (.bool (!(a == b)))
  | .lss => K (.bool (decide (a < b)))
  | .leq => K (.bool (decide (a ≤ b)))
  | .gtr => K (.bool (decide (b < a)))
  | .geq => K (.bool (decide (b ≤ a)))
  | _ => none

noncomputable def binS (op : BinOp) (a b : List UInt8) (K : AVal → Option Res) : Option Res :=
  match op with
  | .add => gd (decide (a.length + b.length ≤ LIM)) (K (.str (a ++ b)))
  | .eql => K (.bool (a == b))
  | .neq => K (.bool (!(a == b)))
  | .lss => K (.bool (strLess a b))
  | .leq => K (.bool (strLess a b || a == b))
  | .gtr => K (.bool (!(strLess a b || a == b)))
  | .geq => K (.bool (!(strLess a b)))
  | _ => none

inductive CK where
  | i (k : IntKind) | b | s
  deriving Inhabited

/-- Are two cells of a kind alike? -/
noncomputable def eqCell : CK → AVal → AVal → Option Bool
  | .i k, .int j a, .int j' b => match decide (j = k) && decide (j' = k) with | true => some (a == b) | false => none
  | .b, .bool a, .bool b => some (a == b)
  | .s, .str a, .str b => some (a == b)
  | _, _, _ => none

noncomputable def eqCells : List CK → List AVal → List AVal → Option Bool
  | [], [], [] => some true
  | k :: ks, a :: l, b :: m => match eqCell k a b with
    | some x => match eqCells ks l m with
      | some y => some (x && y)
      | none => none
    | none => none
  | _, _, _ => none

noncomputable def isBool (d : Option TD) : Bool := match d with | some d => (match d.k with | .bool => true | _ => false) | none => false
noncomputable def isPtr (d : Option TD) : Bool := match d with | some d => (match d.k with | .ptr => true | _ => false) | none => false
/-- The types; those whose values may be compared (structs). -/
structure Cx where
  ty : TT
  eqs : List Nat
  glob : List (Nat × List AVal)      -- tables that nobody writes

/-- Fields, one behind the other without a gap, from k on. -/
noncomputable def tiles (f : Nat → Option (List CK)) : List (Nat × Nat × Nat) → Nat → Option (List CK)
  | [], _ => some []
  | (o, z, t) :: fs, k => match Nat.beq o k with
    | true => match f t with
      | some l => match Nat.beq z l.length with
        | true => match tiles f fs (k + z) with
          | some m => some (l ++ m)
          | none => none
        | false => none
      | none => none
    | false => none

noncomputable def times (l : List CK) : Nat → List CK
  | 0 => []
  | n + 1 => l ++ times l n

/-- The cells of a type of whole numbers, bools and texts alone; n: how deep. -/
noncomputable def plainT (cx : Cx) : Nat → Nat → Option (List CK)
  | 0, _ => none
  | n + 1, t => match cx.ty.find t with
    | some d => match d.k with
      | .int k => some [.i k]
      | .bool => some [.b]
      | .str => some [.s]
      | .struct fs => match cx.eqs.any (Nat.beq t) with
        | true => match tiles (plainT cx n) fs 0 with
          | some l => match Nat.beq l.length d.size with | true => some l | false => none
          | none => none
        | false => none
      | .array m e z => match plainT cx n e with
        | some l => match Nat.beq l.length z && Nat.beq (m * z) d.size with | true => some (times l m) | false => none
        | none => none
      | _ => none
    | none => none

noncomputable def plainTop (cx : Cx) (t : Nat) : Option (List CK) := match cx.ty.find t with
  | some d => match d.agg? && cx.eqs.any (Nat.beq t) with
    | true => plainT cx 9 t
    | false => none
  | none => none

noncomputable def binA (cx : Cx) (op : BinOp) (t : Nat) (x y : AVal) (K : AVal → Option Res) : Option Res :=
  match x, y with
  | .int k a, .int k' b => match op with
    | .shl => gd (decide (0 ≤ b)) (K (.int k (shl2 k a b)))
    | .shr => gd (decide (0 ≤ b)) (K (.int k (shr2 k a b)))
    | _ => match decide (k = k') with | true => binI op k a b K | false => none
  | .str a, .str b => binS op a b K
  | .bool a, .bool b => match isBool (cx.ty.find t) with
    | true => match op with
      | .eql => K (.bool (a == b))
      | .neq => K (.bool (!(a == b)))
      | _ => none
    | false => none
  | .agg a, .agg b => match plainTop cx t with
    | some ks => match eqCells ks a b with
      | some r => match op with
        | .eql => K (.bool r)
        | .neq => K (.bool (!r))
        | _ => none
      | none => none
    | none => none
  | .ptr _ _, .nilp => match isPtr (cx.ty.find t) with
    | true => match op with
      | .eql => K (.bool false)
      | .neq => K (.bool true)
      | _ => none
    | false => none
  | .nilp, .nilp => match isPtr (cx.ty.find t) with
    | true => match op with
      | .eql => K (.bool true)
      | .neq => K (.bool false)
      | _ => none
    | false => none
  | _, _ => none

noncomputable def unA (op : UnOp) (x : AVal) (K : AVal → Option Res) : Option Res :=
  match op, x with
  | .not, .bool b => K (.bool (!b))
  | .neg, .int k n => K (.int k (k.wrap (0 - n)))
  | .xor, .int k n => K (.int k (bits2 .xor k (if k.signed then -1 else k.max) n))
  | _, _ => none

/-- x ++ y, y's elements laid behind x's. -/
noncomputable def appA (x y : AVal) (K : AVal → Option Res) : Option Res :=
  match x, y with
  | .ints true k l, .ints _ k' m => match decide (k = k') with
    | true => gd (decide (l.length + m.length ≤ LIM)) (K (.ints true k (l ++ m)))
    | false => none
  | .ints true .u8 l, .str m => gd (decide (l.length + m.length ≤ LIM)) (K (.ints true .u8 (l ++ m.map ofB)))
  | .strs true l, .strs _ m => gd (decide (l.length + m.length ≤ LIM)) (K (.strs true (l ++ m)))
  | .strs2 true l, .strs2 _ m => gd (decide (l.length + m.length ≤ LIM)) (K (.strs2 true (l ++ m)))
  | .rows true z l, .rows _ z' m => match Nat.beq z z' with
    | true => gd (decide (l.length + m.length ≤ LIM)) (K (.rows true z (l ++ m)))
    | false => none
  | _, _ => none

/-- A slice out of its elements' cells. -/
noncomputable def allInts (k : IntKind) : List (List AVal) → Option (List Int)
  | [] => some []
  | [.int k' n] :: l => match decide (k = k') with
    | true => (allInts k l).map (n :: ·)
    | false => none
  | _ => none
noncomputable def allStrs : List (List AVal) → Option (List (List UInt8))
  | [] => some []
  | [.str s] :: l => (allStrs l).map (s :: ·)
  | _ => none
noncomputable def allStrs2 : List (List AVal) → Option (List (List UInt8 × List UInt8))
  | [] => some []
  | [.str s, .str t] :: l => (allStrs2 l).map ((s, t) :: ·)
  | _ => none
noncomputable def mkSlice (sk : SK) (es : List (List AVal)) : Option AVal :=
  match sk with
  | .ints k => (allInts k es).map (.ints true k)
  | .strs => (allStrs es).map (.strs true)
  | .strs2 => (allStrs2 es).map (.strs2 true)
  | .rows z => match es.all (fun r => Nat.beq r.length z && pureL r) with
    | true => some (.rows true z es)
    | false => none

/-! ### pointers -/
mutual
noncomputable def AVal.ptrs : AVal → List Nat
  | .ptr b _ => [b]
  | .rptr cs => ptrsL cs
  | .agg cs => ptrsL cs
  | .tup cs => ptrsL cs
  | .fn _ cs => ptrsL cs
  | .rows _ _ l => ptrsLL l
  | _ => []
noncomputable def ptrsL : List AVal → List Nat
  | [] => []
  | a :: l => a.ptrs ++ ptrsL l
noncomputable def ptrsLL : List (List AVal) → List Nat
  | [] => []
  | a :: l => ptrsL a ++ ptrsLL l
end

noncomputable def pos (b : Nat) : List Nat → Nat
  | [] => 0
  | x :: l => match Nat.beq x b with | true => 0 | false => pos b l + 1

/-! Blocks by other numbers. -/
mutual
noncomputable def AVal.ren (f : Nat → Nat) : AVal → AVal
  | .ptr b o => .ptr (f b) o
  | .rptr cs => .rptr (renL f cs)
  | .agg cs => .agg (renL f cs)
  | .tup cs => .tup (renL f cs)
  | .fn g cs => .fn g (renL f cs)
  | .rows u z l => .rows u z (renLL f l)
  | x => x
noncomputable def renL (f : Nat → Nat) : List AVal → List AVal
  | [] => []
  | a :: l => a.ren f :: renL f l
noncomputable def renLL (f : Nat → Nat) : List (List AVal) → List (List AVal)
  | [] => []
  | a :: l => renL f a :: renLL f l
end

noncomputable def addNew (seen : List Nat) : List Nat → List Nat
  | [] => []
  | x :: l => match (seen.any (Nat.beq x)) with
    | true => addNew seen l
    | false => x :: addNew (x :: seen) l

/-- All blocks that are led to. -/
noncomputable def reach (heap : List (List AVal)) : Nat → List Nat → List Nat → List Nat
  | 0, _, seen => seen
  | n + 1, todo, seen => match todo with
    | [] => seen
    | b :: rest =>
      let new := addNew seen (ptrsL (heap.getD b []))
      reach heap n (rest ++ new) (seen ++ new)

noncomputable def nodupB : List Nat → Bool
  | [] => true
  | a :: l => match l.any (Nat.beq a) with | true => false | false => nodupB l

/-- Is r without twins, in the heap, and does nothing lead out of it? -/
noncomputable def closedB (heap : List (List AVal)) (ps r : List Nat) : Bool :=
  match nodupB r with
  | false => false
  | true => match ps.all (fun b => r.any (Nat.beq b)) with
    | false => false
    | true => r.all fun b => match heap[b]? with
      | some [] => false
      | some cs => (ptrsL cs).all fun b => r.any (Nat.beq b)
      | none => false

noncomputable def setAll (heap : List (List AVal)) : List Nat → List (List AVal) → List (List AVal)
  | b :: bs, c :: cs => setAll (heap.set b c) bs cs
  | _, _ => heap

/-- A call: the blocks that the arguments lead to go with it, by numbers of their own; behind it they are laid back, new ones behind all. -/
noncomputable def callA (O : Oracle) (f : Nat) (args : List AVal) (s : S) (K : KV) : Option Res :=
  match ptrsL args with
  | [] => O f args [] fun v h => match h with
    | [] => K v s
    | _ => K (v.ren (fun b => b + s.heap.length)) { s with heap := s.heap ++ renLL (fun b => b + s.heap.length) h }
  | ps =>
    let r0 := addNew [] ps
    let r := reach s.heap s.heap.length r0 r0
    let n := r.length
    let into := fun b => pos b r
    let back := fun b => match r[b]? with | some x => x | none => b - n + s.heap.length
    match closedB s.heap ps r with
    | false => none
    | true => O f (renL into args) (r.map fun b => renL into (s.heap.getD b [])) fun v h =>
      K (v.ren back) { s with heap := setAll s.heap r (renLL back (h.take n)) ++ renLL back (h.drop n) }

/-! ### one operation -/
noncomputable def fieldsFill (cx : Cx) (fs : List (Nat × Nat × Nat)) (ms : List Nat) : List (Nat × Operand) → S → List AVal → KV → Option Res
  | [], s, cs, K => K (.agg cs) s
  | (i, x) :: rest, s, cs, K => match fs[i]? with
    | none => none
    | some (o, z, t) => s.rd (cx.ty.find t) (match ms with | m :: _ => m | [] => 0) x fun v s => match v.st && (Nat.beq v.cells.length z && Nat.ble (o + z) cs.length) with
      | true => fieldsFill cx fs ms.tail rest s (splice o v.cells cs) K
      | false => none

noncomputable def elemsFill (cx : Cx) (e z : Nat) (ms : List Nat) : List (Nat × Operand) → S → List (List AVal) → (List (List AVal) → S → Option Res) → Option Res
  | [], s, es, K => K es s
  | (i, x) :: rest, s, es, K => s.rd (cx.ty.find e) (match ms with | m :: _ => m | [] => 0) x fun v s => match v.st && v.pure && Nat.beq v.cells.length z && Nat.blt i es.length with
      | true => elemsFill cx e z ms.tail rest s (es.set i v.cells) K
      | false => none

noncomputable def argsRd (cx : Cx) (ms : List Nat) : List Operand → List Nat → S → (List AVal → S → Option Res) → Option Res
  | [], _, s, K => K [] s
  | x :: xs, ts, s, K => s.rd (match ts with | t :: _ => cx.ty.find t | [] => none) (match ms with | m :: _ => m | [] => 0) x fun v s => match v.isRef with
      | true => none
      | false => argsRd cx ms.tail xs ts.tail s fun vs s => K (v :: vs) s

noncomputable def loadA (s : S) (d : TD) (m : Nat) (x : AVal) (K : KV) : Option Res :=
  match x with
  | .ptr b o => match s.heap[b]? with
    | none => none
    | some [] => none
    | some cs => match loadC d cs o with
      | none => none
      | some v => match m with
        | 0 => match v.pure with | true => K v s | false => none
        | 1 => K v { s with heap := s.heap.set b (splice o (List.replicate v.cells.length .undef) cs) }
        | 2 => K v.fz { s with heap := s.heap.set b (splice o v.fz.cells cs) }
        | _ => K v.lens s
  | .rptr cs => match loadC d cs 0 with
    | some v => match m with
      | 3 => K v.lens s
      | _ => K v s
    | none => none
  | .eref t i => match (lget s.env t) with
    | .ints true k l => match l[i]? with
      | some n => match d.agg? with | true => none | false => K (.int k n) s
      | none => none
    | .strs true l => match l[i]? with
      | some n => match d.agg? with | true => none | false => K (.str n) s
      | none => none
    | .strs2 true l => match l[i / 2]? with
      | some n => match d.agg? with
        | true => match Nat.beq (i % 2) 0 && Nat.beq d.size 2 with | true => K (.agg [.str n.1, .str n.2]) s | false => none
        | false => match Nat.beq (i % 2) 0 with | true => K (.str n.1) s | false => K (.str n.2) s
      | none => none
    | .rows true z l => match l[i / z]? with
      | some n => match Nat.blt 0 z with
        | false => none
        | true => match loadC d n (i % z) with
          | some v => match m with
            | 3 => K v.lens s
            | _ => K v s
          | none => none
      | none => none
    | _ => none
  | _ => none

noncomputable def storeA (s : S) (x v : AVal) (K : S → Option Res) : Option Res :=
  match x with
  | .ptr b o => match s.heap[b]? with
    | none => none
    | some [] => none
    | some cs => match Nat.ble (o + v.cells.length) cs.length with
      | true => K { s with heap := s.heap.set b (splice o v.cells cs) }
      | false => none
  | .eref t i => match (lget s.env t) with
    | .ints true k l => match v with
      | .int k' n => match decide (k = k') with
        | true => gd (decide (i < l.length)) (K (s.raw t (.ints true k (l.set i n))))
        | false => none
      | _ => none
    | .strs true l => match v with
      | .str n => gd (decide (i < l.length)) (K (s.raw t (.strs true (l.set i n))))
      | _ => none
    | .strs2 true l => match l[i / 2]? with
      | some p => match v with
        | .agg [.str a, .str b] => match Nat.beq (i % 2) 0 with | true => K (s.raw t (.strs2 true (l.set (i / 2) (a, b)))) | false => none
        | .str a => match Nat.beq (i % 2) 0 with | true => K (s.raw t (.strs2 true (l.set (i / 2) (a, p.2)))) | false => K (s.raw t (.strs2 true (l.set (i / 2) (p.1, a))))
        | _ => none
      | none => none
    | .rows true z l => match l[i / z]? with
      | some cs => match Nat.blt 0 z && v.pure && Nat.ble (i % z + v.cells.length) cs.length with
        | true => K (s.raw t (.rows true z (l.set (i / z) (splice (i % z) v.cells cs))))
        | false => none
      | none => none
    | _ => none
  | _ => none

/-- The address of an element. -/
noncomputable def indexA (x : AVal) (slot : Option Nat) (i : Int) (K : AVal → Option Res) : Option Res :=
  match x with
  | .ints false k l => match idx l i with | some n => K (.rptr [.int k n]) | none => none
  | .strs false l => match idx l i with | some n => K (.rptr [.str n]) | none => none
  | .strs2 false l => match idx l i with | some n => K (.rptr [.str n.1, .str n.2]) | none => none
  | .rows false _ l => match idx l i with | some n => K (.rptr n) | none => none
  | .ints true _ l => match slot with
    | some t => gd (decide (0 ≤ i ∧ i.toNat < l.length)) (K (.eref t i.toNat))
    | none => none
  | .strs true l => match slot with
    | some t => gd (decide (0 ≤ i ∧ i.toNat < l.length)) (K (.eref t i.toNat))
    | none => none
  | .strs2 true l => match slot with
    | some t => gd (decide (0 ≤ i ∧ i.toNat < l.length)) (K (.eref t (i.toNat * 2)))
    | none => none
  | .rows true z l => match slot with
    | some t => gd (decide (0 ≤ i ∧ i.toNat < l.length)) (K (.eref t (i.toNat * z)))
    | none => none
  | _ => none

noncomputable def bound (d : Int) (s : S) : Option Operand → Option Int
  | none => some d
  | some x => match s.rdo none x with | .int _ n => some n | _ => none

noncomputable def minA : List AVal → AVal → (AVal → Option Res) → Option Res
  | [], a, K => K a
  | .int _ y :: l, .int k x, K => minA l (.int k (if y < x then y else x)) K
  | _, _, _ => none
noncomputable def maxA : List AVal → AVal → (AVal → Option Res) → Option Res
  | [], a, K => K a
  | .int _ y :: l, .int k x, K => maxA l (.int k (if x < y then y else x)) K
  | _, _, _ => none

/-- Is the element's type known? -/
noncomputable def elemOK (ty : TT) (t : Nat) : Bool := match ty.find t with
  | some d => (match d.k with
    | .slice e _ => (match ty.find e with | some _ => true | none => false)
    | _ => false)
  | none => false

noncomputable def tmpOf : Operand → Option Nat
  | .tmp t => some t
  | _ => none

noncomputable def builtinA (cx : Cx) (b : Builtin) (c : Call) (ms : List Nat) (s : S) (K : KV) : Option Res :=
  match b with
  | .len => match c.args.toList with
    | [x] => match c.argTypes.toList with
      | t :: _ => match fits (cx.ty.find t) (s.der (s.rdo none x)) with
        | true => match (s.der (s.rdo none x)).len? with
          | some n => K (.int .i64 n) s
          | none => none
        | false => none
      | _ => none
    | _ => none
  | .append => match c.args.toList with
    | [x, y] => match c.argTypes.toList with
      | [t, u] => match elemOK cx.ty t && (fits (cx.ty.find t) (s.rdo (cx.ty.find t) x) && fits (cx.ty.find u) (s.der (s.rdo (cx.ty.find u) y))) with
        | true => appA (s.rdo (cx.ty.find t) x) (s.der (s.rdo (cx.ty.find u) y)) fun v => K v (s.drop x)
        | false => none
      | _ => none
    | _ => none
  | .min => match c.args.toList.map (s.rdo none) with
    | x :: y :: l => minA (y :: l) x fun v => K v s
    | _ => none
  | .max => match c.args.toList.map (s.rdo none) with
    | x :: y :: l => maxA (y :: l) x fun v => K v s
    | _ => none
  | _ => none

noncomputable def m0 (ms : List Nat) : Nat := match ms with | m :: _ => m | [] => 0

/-- A variable that nobody writes. -/
noncomputable def stays (ms : List Nat) : Bool := match ms with | _ :: k :: _ => Nat.beq k 1 | _ => false

noncomputable def intsC (k : IntKind) : List AVal → Option (List Int)
  | [] => some []
  | .int k' n :: l => match decide (k = k') with
    | true => (intsC k l).map (n :: ·)
    | false => none
  | _ => none

/-- A part of an array that stays. -/
noncomputable def sliceRA (cx : Cx) (t : Nat) (cs : List AVal) (lo hi : Option Operand) (s : S) (K : KV) : Option Res :=
  match cx.ty.find t with
  | some d => match d.k with
    | .array n e z => match Nat.beq z 1 && Nat.ble n cs.length with
      | true => match cx.ty.find e with
        | some de => match de.k with
          | .int k => match bound 0 s lo with
            | some l => match bound n s hi with
              | some h => gd (decide (0 ≤ l ∧ l ≤ h ∧ h ≤ n)) (match intsC k (cut cs l.toNat h.toNat) with
                | some xs => K (.ints false k xs) s
                | none => none)
              | none => none
            | none => none
          | _ => none
        | none => none
      | false => none
    | _ => none
  | none => none

/-- A number among cells. -/
noncomputable def intAt (k : IntKind) (cs : List AVal) (o : Nat) : Option Int := match cs[o]? with
  | some (.int k' n) => (match decide (k' = k) with | true => some n | false => none)
  | _ => none

/-- A load; a number's is known to be one. -/
noncomputable def loadN (s : S) (d : TD) (m : Nat) (x : AVal) (K : KV) : Option Res := match x with
  | .ptr b o => (match d.k with
    | .int k => (match s.heap[b]? with
      | some (c :: cs) => (match intAt k (c :: cs) o with
        | some n => K (.int k n) s
        | none => none)
      | _ => none)
    | _ => loadA s d m (.ptr b o) K)
  | x => loadA s d m x K

/-- An array's element. -/
noncomputable def indexRA (cx : Cx) (t : Nat) (cs : List AVal) (n : Int) (s : S) (K : KV) : Option Res :=
  match cx.ty.find t with
  | some d => match d.k with
    | .array m e z => match Nat.beq z 1 with
      | true => match cx.ty.find e with
        | some de => match de.agg? with
          | false => gd (decide (0 ≤ n ∧ n.toNat < m)) (match de.k with
            | .int k => (match intAt k cs n.toNat with
              | some x => K (.int k x) s
              | none => none)
            | _ => (match cs[n.toNat]? with
              | some v => match v.pure with
                | true => K v s
                | false => none
              | none => none))
          | true => none
        | none => none
      | false => none
    | _ => none
  | none => none

noncomputable def findG (g : Nat) : List (Nat × List AVal) → Option (List AVal)
  | [] => none
  | (k, cs) :: l => match Nat.beq g k with | true => some cs | false => findG g l

/-- A place that stays. -/
noncomputable def globOf (cx : Cx) (x : Operand) (v : AVal) : Option (List AVal) := match x with
  | .global g => findG g cx.glob
  | _ => match v with
    | .rptr cs => some cs
    | _ => none

/-- An element's address, of an array that stays. -/
noncomputable def indexRP (cx : Cx) (t : Nat) (cs : List AVal) (n : Int) (s : S) (K : KV) : Option Res :=
  match cx.ty.find t with
  | some d => match d.k with
    | .array len _ z => gd (decide (0 ≤ n ∧ n.toNat < len ∧ (n.toNat + 1) * z ≤ cs.length)) (K (.rptr (cs.drop (n.toNat * z))) s)
    | _ => none
  | none => none

/-- A part of an array variable that nobody goes to any more. -/
noncomputable def sliceVA (cx : Cx) (t : Nat) (b off : Nat) (lo hi : Option Operand) (s : S) (K : KV) : Option Res :=
  match cx.ty.find t with
  | some d => match d.k with
    | .array n e z => match cx.ty.find e with
      | some de => match de.k with
        | .int k => match s.heap[b]? with
          | some (c :: cs) => match Nat.beq z 1 && (Nat.ble (off + n) (c :: cs).length && pureL (c :: cs)) with
            | true => match bound 0 s lo with
              | some l => match bound n s hi with
                | some h => gd (decide (0 ≤ l ∧ l ≤ h ∧ h ≤ n)) (match intsC k (cut ((c :: cs).drop off) l.toNat h.toNat) with
                  | some xs => K (.ints false k xs) { s with heap := s.heap.set b [] }
                  | none => none)
                | none => none
              | none => none
            | false => none
          | _ => none
        | _ => none
      | none => none
    | _ => none
  | none => none

noncomputable def ptrOf : AVal → Option (Nat × Nat)
  | .ptr b o => some (b, o)
  | _ => none

noncomputable def rptrOf : AVal → Option (List AVal)
  | .rptr cs => some cs
  | _ => none

noncomputable def stepA (cx : Cx) (O : Oracle) (o : Oper) (ms : List Nat) (s : S) (K : KV) : Option Res :=
  match o.op with
  | .move x => s.rd (cx.ty.find o.type) (m0 ms) x K
  | .assign x => s.rd (cx.ty.find o.type) (m0 ms) x K
  | .pick c a b => match s.rdo none c with
    | .bool c' => match c' with
      | true => s.rd (cx.ty.find o.type) 0 a K
      | false => s.rd (cx.ty.find o.type) 0 b K
    | _ => none
  | .alloc t => match cx.ty.find t with
    | some d => K (.ptr s.heap.length 0) { s with heap := s.heap ++ [d.zero] }
    | none => none
  | .box t x => match cx.ty.find t with
    | some d => s.rd (some d) (m0 ms) x fun v s => match v.st && Nat.beq v.cells.length d.size with
      | true => match stays ms with
        | true => match v.pure with
          | true => K (.rptr v.cells) s
          | false => none
        | false => K (.ptr s.heap.length 0) { s with heap := s.heap ++ [v.cells] }
      | false => none
    | none => none
  | .build t parts => match cx.ty.find t with
    | some d => match d.k with
      | .struct fs => fieldsFill cx fs ms parts.toList s d.zero K
      | _ => none
    | none => none
  | .buildSlice t n parts => match cx.ty.find t with
    | some d => match d.k with
      | .slice e sk => match cx.ty.find e with
        | some de => gd (decide (n * de.size ≤ 16777216)) (elemsFill cx e de.size ms parts.toList s (List.replicate n (fzL de.zero)) fun es s => match mkSlice sk es with
          | some v => K v s
          | none => none)
        | none => none
      | _ => none
    | none => none
  | .load t x => match cx.ty.find t with
    | some d => loadN s d (m0 ms) (s.rdo none x) K
    | none => none
  | .store t a x => match cx.ty.find t with
    | some d => s.rd (some d) (m0 ms) x fun v s => match v.st && Nat.beq v.cells.length d.size with
      | true => storeA s (s.rdo none a) v fun s => K .undef s
      | false => none
    | none => none
  | .nilCheck x => match s.rdo none x with
    | .ptr b o => K (.ptr b o) s
    | .rptr cs => K (.rptr cs) s
    | .eref t i => K (.eref t i) s
    | .fn f cs => K (.fn f cs) s
    | _ => none
  | .binOp op t x y _ => binA cx op t (s.rdo (cx.ty.find t) x) (s.rdo (cx.ty.find t) y) fun v => K v s
  | .unOp op _ x => unA op (s.rdo none x) fun v => K v s
  | .convert src t x => match cx.ty.find src with
   | none => none
   | some ds => match cx.ty.find t with
    | some d => match d.k with
      | .int k => match s.rdo none x with
        | .int _ n => K (.int k (k.wrap n)) s
        | _ => none
      | .str => match s.rdo none x with
        | .str a => K (.str a) s
        | v => match ds.k with
          | .slice _ (.ints .u8) => match s.der v with
            | .ints _ .u8 l => K (.str (l.map toB)) s
            | _ => none
          | _ => none
      | .slice _ (.ints .u8) => match s.rdo none x with
        | .str a => gd (decide (a.length ≤ LIM)) (K (.ints true .u8 (a.map ofB)) s)
        | _ => none
      | _ => none
    | none => none
  | .slice t x lo hi none => match rptrOf (s.rdo none x) with
    | some cs => sliceRA cx t cs lo hi s K
    | none => match ptrOf (s.rdo none x) with
     | some (b, off) => sliceVA cx t b off lo hi s K
     | none => match fits (cx.ty.find t) (s.rdo none x) with
      | false => none
      | true => match (s.rdo none x).lenS? with
        | some n => match bound 0 s lo with
          | some l => match bound n s hi with
            | some h => gd (decide (0 ≤ l ∧ l ≤ h ∧ h ≤ n)) (match (s.rdo none x).pure with
              | true => K (cutA (s.rdo none x) l.toNat h.toNat) s
              | false => match m0 ms with
                | 1 => K (cutA (s.rdo none x) l.toNat h.toNat) (s.drop x)
                | 2 => K (cutA (s.rdo none x) l.toNat h.toNat).fz (s.drop x)
                | _ => none)
            | none => none
          | none => none
        | none => none
  | .fieldAddr t x f => match cx.ty.find t with
    | some d => match d.k with
      | .struct fs => match fs[f]? with
        | some (off, z, _) => match Nat.beq z 0 with
          | true => none
          | false => match s.rdo none x with
            | .ptr b o => K (.ptr b (o + off)) s
            | .rptr cs => match Nat.ble (off + z) cs.length with
              | true => K (.rptr (cs.drop off)) s
              | false => none
            | .eref u i => K (.eref u (i + off)) s
            | _ => none
        | none => none
      | _ => none
    | none => none
  | .indexAddr t x i => match s.rdo none i with
    | .int _ n => match globOf cx x (s.rdo none x) with
      | some cs => indexRP cx t cs n s K
      | none => match s.rdo none x with
        | .ptr b off => match cx.ty.find t with
          | some d => match d.k with
            | .array len _ z => gd (decide (0 ≤ n ∧ n.toNat < len)) (K (.ptr b (off + n.toNat * z)) s)
            | _ => none
          | none => none
        | .sref u => match fits (cx.ty.find t) (lget s.env u) with
          | true => indexA (lget s.env u) (some u) n fun r => K r s
          | false => none
        | v => match fits (cx.ty.find t) v with
          | true => indexA v (tmpOf x) n fun r => K r s
          | false => none
    | _ => none
  | .index t x i => match s.rdo none i with
    | .int _ n => match s.rdo none x with
      | .str l => match fits (cx.ty.find t) (.str l) with
        | true => match idx l n with
          | some c => K (.int .u8 (ofB c)) s
          | none => none
        | false => none
      | .agg cs => indexRA cx t cs n s K
      | _ => none
    | _ => none
  | .extract x i => match s.rdo none x with
    | .tup vs => match vs[i]? with
      | some v => match v.pure with
        | true => K v s
        | false => match x with
          | .tmp t => K v (s.set t (.tup (vs.set i .undef)))
          | _ => none
      | none => none
    | _ => none
  | .makeSlice t l c => match cx.ty.find t with
    | some d => match d.k with
      | .slice e sk => match cx.ty.find e with
        | some de => match s.rdo none l with
          | .int _ n => match s.rdo none c with
            | .int _ n' => gd (decide (0 ≤ n ∧ n ≤ n' ∧ n' ≤ LIM)) (match mkSlice sk (List.replicate n.toNat (fzL de.zero)) with
              | some v => K v s
              | none => none)
            | _ => none
          | _ => none
        | none => none
      | _ => none
    | none => none
  | .call c => match c.callee with
    | .builtin b => builtinA cx b c ms s K
    | .value f => match s.rdo none f with
      | .fn g caps => argsRd cx ms c.args.toList c.argTypes.toList s fun vs s => callA O g (vs ++ caps) s K
      | _ => none
    | _ => none
  | _ => none

/-! ### code -/
/-- How a region is gone through whose order is drawn: this one alone may come; this one may be taken ahead of all; this variable may be made at any time from now on; by now it has been made. -/
inductive DStep where
  | go (i : Nat)
  | early (i : Nat)
  | float (i : Nat)
  | land (i : Nat)
  | goall (i : Nat)   -- the only one, and it waits for all that was taken ahead: from here on nothing is hidden
  deriving Inhabited

inductive DPlan where
  | done
  | step (s : DStep) (p : DPlan)
  | fork (i j : Nat) (p q : DPlan)   -- these two alone may come; whichever does, the region ends alike
  | forkk (i j : Nat) (p q : DPlan)   -- the same, held to the end of all
  deriving Inhabited

inductive AC where
  | skip
  | reg (ms : List (List Nat))
  | dreg (hs : List Nat) (plan : DPlan) (ms : List (List Nat))
  | seq (a b : AC)
  | cond (a b : AC)
  | block (a : AC)
  | loop (a : AC)
  | loopk (l : List Nat) (a : AC)      -- ahead of each round all slots but l are forgotten
  | ret
  | exit
  | keep (l : List Nat) (a : AC)
  | frz (ts : List Nat) (a : AC)
  deriving Inhabited

inductive Out where
  | normal | exit (id : Nat) | ret

/-- One operation of a region, if it is wanted. -/
noncomputable def op1A (cx : Cx) (O : Oracle) (ops : Array Oper) (o : Oper) (m : List Nat) (s : S) (K : S → Option Res) : Option Res :=
  match o.guard with
  | none => stepA cx O o m s fun v s => K (s.put o.dst v)
  | some (j, want) => match (ops[j]?).bind (·.dst) with
    | none => none
    | some t => match lget s.env t with
      | .bool b => match b with
        | true => match want with
          | true => stepA cx O o m (s.set t (.bool true)) fun v s => K (s.put o.dst v)
          | false => K ((s.set t (.bool true)).put o.dst (.tup []))
        | false => match want with
          | true => K ((s.set t (.bool false)).put o.dst (.tup []))
          | false => stepA cx O o m (s.set t (.bool false)) fun v s => K (s.put o.dst v)
      | .tup [] => K (s.put o.dst (.tup []))
      | _ => none

noncomputable def hd0 : List (List Nat) → List Nat
  | m :: _ => m
  | [] => []

noncomputable def opsA (cx : Cx) (O : Oracle) (ops : Array Oper) : List Oper → List (List Nat) → S → (S → Option Res) → Option Res
  | [], _, s, K => K s
  | o :: rest, ms, s, K => op1A cx O ops o (hd0 ms) s fun s => opsA cx O ops rest ms.tail s K

/-! #### regions whose order is drawn -/
noncomputable def inL (l : List Nat) (i : Nat) : Bool := l.any (Nat.beq i)

noncomputable def afterIn (l : List Nat) : List Edge → Bool
  | [] => true
  | e :: es => match Region.binds .any e with
    | true => match inL l e.on with | true => afterIn l es | false => false
    | false => afterIn l es

/-- What may come up now, of the operations from k on. -/
noncomputable def rdyA (l : List Nat) : Nat → List Oper → List Nat
  | _, [] => []
  | k, o :: os => match inL l k with
    | true => rdyA l (k + 1) os
    | false => match afterIn l o.after.toList with
      | true => k :: rdyA l (k + 1) os
      | false => rdyA l (k + 1) os

noncomputable def waits (i : Nat) : List Edge → Bool
  | [] => false
  | e :: es => match Region.binds .any e && Nat.beq e.on i with | true => true | false => waits i es

/-- What may come ahead of i touches nothing of i's. -/
noncomputable def freeA (ops : Array Oper) (l : List Nat) (i : Nat) (oi : Oper) : Nat → List Oper → Bool
  | _, [] => true
  | k, o :: os => match Nat.beq k i || (inL l k || (waits i o.after.toList || oi.apart ops o)) with
    | true => freeA ops l i oi (k + 1) os
    | false => false

noncomputable def is1 (i : Nat) : List Nat → Bool
  | [j] => Nat.beq i j
  | _ => false

/-- The operations that may be taken ahead. -/
noncomputable def calmK (cx : Cx) (o : Oper) : Bool := match o.op with
  | .move _ => true
  | .assign _ => true
  | .pick _ _ _ => true
  | .nilCheck _ => true
  | .fieldAddr _ _ _ => true
  | .indexAddr _ _ _ => true
  | .index _ _ _ => true
  | .extract _ _ => true
  | .unOp _ _ _ => true
  | .binOp _ _ _ _ _ => true
  | .load _ _ => true
  | .slice _ _ _ _ none => true
  | .convert src t _ => match cx.ty.find t with
    | some d => (match d.k with | .int _ => (match cx.ty.find src with | some _ => true | none => false) | _ => false)
    | none => false
  | .call c => (match c.callee with | .builtin .len => true | .builtin .min => true | .builtin .max => true | _ => false)
  | _ => false

noncomputable def allocK (o : Oper) : Option (Nat × Nat) := match o.op with
  | .alloc t => match o.dst with
    | some d => match o.guard with
      | none => some (t, d)
      | some _ => none
    | none => none
  | _ => none

noncomputable def apartL (ops : Array Oper) (o : Oper) : List Nat → Bool
  | [] => true
  | f :: fl => match ops[f]? with
    | some of => match of.apart ops o with | true => apartL ops o fl | false => false
    | none => false

noncomputable def noSel (o : Oper) : Bool := match o.op with | .select _ _ => false | _ => true

noncomputable def delL (i : Nat) : List Nat → List Nat
  | [] => []
  | j :: l => match Nat.beq i j with | true => delL i l | false => j :: delL i l

noncomputable def isLoad (o : Oper) : Bool := match o.op with | .load _ _ => true | _ => false

noncomputable def waitsAll (es : List Nat) (l : List Edge) : Bool := es.all fun i => waits i l

noncomputable def planLen : DPlan → Nat
  | .done => 0
  | .step (.land _) p => planLen p
  | .step _ p => planLen p + 1
  | .fork _ _ p _ => planLen p + 1
  | .forkk _ _ p _ => planLen p + 1

noncomputable def is2 (i j : Nat) : List Nat → Bool
  | [a, b] => Nat.beq i a && Nat.beq j b
  | _ => false

/-- Is the plan one of the region's? l: what has come up; fl: variables that may be made; es: what was taken ahead. -/
noncomputable def checkD (cx : Cx) (ops : Array Oper) : List Nat → List Nat → List Nat → DPlan → Bool
  | l, fl, _, .done => (match rdyA l 0 ops.toList with | [] => true | _ => false) && (match fl with | [] => true | _ => false)
  | l, fl, es, .step (.go i) p => match ops[i]? with
    | some o => (is1 i (rdyA (fl ++ l) 0 ops.toList) && (afterIn l o.after.toList && apartL ops o fl)) && checkD cx ops (i :: l) fl es p
    | none => false
  | l, fl, es, .step (.goall i) p => match ops[i]? with
    | some o => (is1 i (rdyA (fl ++ l) 0 ops.toList) && (afterIn l o.after.toList && (apartL ops o fl && waitsAll es o.after.toList))) && checkD cx ops (i :: l) fl [] p
    | none => false
  | l, fl, es, .step (.early i) p => match ops[i]? with
    | some o => (!inL (fl ++ l) i && (afterIn l o.after.toList && (calmK cx o && (freeA ops l i o 0 ops.toList && apartL ops o fl)))) && checkD cx ops (i :: l) fl (match isLoad o with | true => i :: es | false => es) p
    | none => false
  | l, fl, es, .step (.float i) p => match ops[i]? with
    | some o => (!inL (fl ++ l) i && (afterIn l o.after.toList && (freeA ops (fl ++ l) i o 0 ops.toList && (match allocK o with | some _ => true | none => false)))) && checkD cx ops l (i :: fl) es p
    | none => false
  | l, fl, es, .step (.land i) p => ((inL fl i && is1 i (rdyA (delL i fl ++ l) 0 ops.toList)) && (match ops[i]? with | some o => afterIn l o.after.toList | none => false)) && checkD cx ops (i :: l) (delL i fl) es p
  | l, fl, es, .fork i j p q => match ops[i]? with
    | some oi => match ops[j]? with
      | some oj => (is2 i j (rdyA (fl ++ l) 0 ops.toList) && (afterIn l oi.after.toList && (apartL ops oi fl && (apartL ops oj fl && Nat.beq (planLen p) (planLen q))))) && (checkD cx ops (i :: l) fl es p && checkD cx ops (j :: l) fl es q)
      | none => false
    | none => false
  | l, fl, es, .forkk i j p q => match ops[i]? with
    | some oi => match ops[j]? with
      | some oj => (is2 i j (rdyA (fl ++ l) 0 ops.toList) && (afterIn l oi.after.toList && (apartL ops oi fl && (apartL ops oj fl && Nat.beq (planLen p) (planLen q))))) && (checkD cx ops (i :: l) fl es p && checkD cx ops (j :: l) fl es q)
      | none => false
    | none => false

/-- The blocks whose cells are hidden while others run. -/
noncomputable def hidBlks (s : S) : List Nat → List Nat → List Nat
  | [], acc => acc
  | t :: ts, acc => match lget s.env t with
    | .ptr b _ => match inL acc b with
      | true => hidBlks s ts acc
      | false => match s.heap.getD b [] with
        | [] => hidBlks s ts acc
        | _ => hidBlks s ts (b :: acc)
    | _ => hidBlks s ts acc

noncomputable def hideAll (heap : List (List AVal)) : List Nat → List (Nat × List AVal) × List (List AVal)
  | [] => ([], heap)
  | b :: bs => match hideAll (heap.set b []) bs with
    | (hc, h) => ((b, heap.getD b []) :: hc, h)

noncomputable def unhide (heap : List (List AVal)) : List (Nat × List AVal) → List (List AVal)
  | [] => heap
  | (b, cs) :: hc => unhide (heap.set b cs) hc

/-- Are the hidden ones still hidden, and the variables to come unknown? -/
noncomputable def stillH (heap : List (List AVal)) : List (Nat × List AVal) → Bool
  | [] => true
  | (b, _) :: hc => match heap[b]? with
    | some [] => stillH heap hc
    | _ => false
noncomputable def fullH (heap : List (List AVal)) : List (Nat × List AVal) → Bool
  | [] => true
  | (b, _) :: hc => match heap[b]? with
    | some (_ :: _) => fullH heap hc
    | _ => false
/-- Those that are not hidden. -/
noncomputable def fullL (heap : List (List AVal)) : List Nat → List Nat
  | [] => []
  | b :: bs => match heap[b]? with
    | some (_ :: _) => b :: fullL heap bs
    | _ => fullL heap bs
noncomputable def stillF (env : List AVal) : List Nat → Bool
  | [] => true
  | d :: ds => match env[d]? with
    | some .undef => stillF env ds
    | _ => false

noncomputable def msAt (ms : List (List Nat)) (i : Nat) : List Nat := ms.getD i []

/-- What is taken ahead reads cells that stay. -/
noncomputable def quietA (s : S) (hc : List (Nat × List AVal)) (o : Oper) : Bool := match o.op with
  | .load _ x => match s.rdo none x with
    | .ptr b _ => inL (hc.map (·.1)) b
    | .eref _ _ => false
    | _ => true
  | _ => true

/-! Are two values the same? -/
mutual
noncomputable def AVal.eqb : AVal → AVal → Bool
  | .undef, .undef => true
  | .bool a, .bool b => a == b
  | .int k n, .int k' n' => decide (k = k') && n == n'
  | .str a, .str b => a == b
  | .nilp, .nilp => true
  | .ptr a b, .ptr a' b' => Nat.beq a a' && Nat.beq b b'
  | .rptr a, .rptr b => eqbL a b
  | .eref a b, .eref a' b' => Nat.beq a a' && Nat.beq b b'
  | .sref a, .sref a' => Nat.beq a a'
  | .ints u k l, .ints u' k' l' => u == u' && (decide (k = k') && l == l')
  | .strs u l, .strs u' l' => u == u' && l == l'
  | .strs2 u l, .strs2 u' l' => u == u' && l == l'
  | .rows u z l, .rows u' z' l' => u == u' && (Nat.beq z z' && eqbLL l l')
  | .slen a, .slen b => Nat.beq a b
  | .agg a, .agg b => eqbL a b
  | .tup a, .tup b => eqbL a b
  | .fn f a, .fn g b => Nat.beq f g && eqbL a b
  | .nilf, .nilf => true
  | .nili, .nili => true
  | _, _ => false
noncomputable def eqbL : List AVal → List AVal → Bool
  | [], [] => true
  | a :: l, b :: m => match a.eqb b with | true => eqbL l m | false => false
  | _, _ => false
noncomputable def eqbLL : List (List AVal) → List (List AVal) → Bool
  | [], [] => true
  | a :: l, b :: m => match eqbL a b with | true => eqbLL l m | false => false
  | _, _ => false
end

noncomputable def encS (s : S) : Option Res := some (.agg s.env, s.heap)
noncomputable def decS (r : Res) (K : S → Option Res) : Option Res := match r with
  | (.agg env, heap) => K { env := env, heap := heap }
  | _ => none
noncomputable def eqR (a b : Res) : Bool := match a.1.eqb b.1 with | true => eqbLL a.2 b.2 | false => false

/-- Both come to the same. -/
noncomputable def forkQ (a b : Option Res) : Option Res := match a with
  | some r1 => (match b with
    | some r2 => (match eqR r1 r2 with | true => some r1 | false => none)
    | none => none)
  | none => none

/-- fd: the slots of the variables that may be made. -/
noncomputable def dregA (cx : Cx) (O : Oracle) (ops : Array Oper) (ms : List (List Nat)) : DPlan → List (Nat × List AVal) → List Nat → S → (S → Option Res) → Option Res
  | .done, hc, _, s, K => K { s with heap := unhide s.heap hc }
  | .step (.go i) p, hc, fd, s, K => match ops[i]? with
    | some o => op1A cx O ops o (msAt ms i) s fun s => match stillH s.heap hc && stillF s.env fd with
      | true => dregA cx O ops ms p hc fd s K
      | false => none
    | none => none
  | .step (.goall i) p, hc, fd, s, K => match ops[i]? with
    | some o => op1A cx O ops o (msAt ms i) { s with heap := unhide s.heap hc } fun s => match stillF s.env fd with
      | true => match hideAll s.heap (fullL s.heap (hc.map (·.1))) with
        | (hc, h) => dregA cx O ops ms p hc fd { s with heap := h } K
      | false => none
    | none => none
  | .step (.early i) p, hc, fd, s, K => match ops[i]? with
    | some o => match quietA s hc o with
      | true => op1A cx O ops o (msAt ms i) { s with heap := unhide s.heap hc } fun s => match fullH s.heap hc && stillF s.env fd with
        | true => match hideAll s.heap (hc.map (·.1)) with
          | (hc, h) => dregA cx O ops ms p hc fd { s with heap := h } K
        | false => none
      | false => none
    | none => none
  | .step (.float i) p, hc, fd, s, K => match ops[i]? with
    | some o => match allocK o with
      | some (t, d) => match cx.ty.find t with
        | some _ => match !inL fd d && stillF (s.set d .undef).env (d :: fd) with
          | true => dregA cx O ops ms p hc (d :: fd) (s.set d .undef) K
          | false => none
        | none => none
      | none => none
    | none => none
  | .step (.land i) p, hc, fd, s, K => match ops[i]? with
    | some o => match allocK o with
      | some (t, d) => match cx.ty.find t with
        | some td => dregA cx O ops ms p hc (delL d fd) ({ s with heap := s.heap ++ [td.zero] }.set d (.ptr s.heap.length 0)) K
        | none => none
      | none => none
    | none => none
  | .fork i j p q, hc, fd, s, K => match ops[i]? with
    | some oi => match ops[j]? with
      | some oj => match (op1A cx O ops oi (msAt ms i) s fun s => match stillH s.heap hc && stillF s.env fd with
          | true => dregA cx O ops ms p hc fd s encS
          | false => none) with
        | some r1 => match (op1A cx O ops oj (msAt ms j) s fun s => match stillH s.heap hc && stillF s.env fd with
            | true => dregA cx O ops ms q hc fd s encS
            | false => none) with
          | some r2 => match eqR r1 r2 with
            | true => decS r1 K
            | false => none
          | none => none
        | none => none
      | none => none
    | none => none
  | .forkk i j p q, hc, fd, s, K => match ops[i]? with
    | some oi => match ops[j]? with
      | some oj => forkQ (op1A cx O ops oi (msAt ms i) s fun s => match stillH s.heap hc && stillF s.env fd with
          | true => dregA cx O ops ms p hc fd s K
          | false => none) (op1A cx O ops oj (msAt ms j) s fun s => match stillH s.heap hc && stillF s.env fd with
          | true => dregA cx O ops ms q hc fd s K
          | false => none)
      | none => none
    | none => none

noncomputable def aloop (body : S → (Out → S → Option Res) → Option Res) : Nat → S → (Out → S → Option Res) → Option Res
  | 0, _, _ => none
  | n + 1, s, K => body s fun o s => match o with
    | .normal => aloop body n s K
    | o => K o s

noncomputable def keepV (l : List Nat) : AVal → AVal
  | .eref u i => match l.any (Nat.beq u) with | true => .eref u i | false => .undef
  | .sref u => match l.any (Nat.beq u) with | true => .sref u | false => .undef
  | v => v
noncomputable def keepL (l : List Nat) (i : Nat) : List AVal → List AVal
  | [] => []
  | v :: env => (match l.any (Nat.beq i) with | true => keepV l v | false => .undef) :: keepL l (i + 1) env

noncomputable def S.keepS (s : S) (l : List Nat) : S := { s with env := keepL l 0 s.env }

noncomputable def roundK (l : List Nat) (K : Out → S → Option Res) : Out → S → Option Res := fun o s => match o with
  | .normal => K .normal (s.keepS l)
  | o => K o s

noncomputable def S.fzSlots (s : S) : List Nat → S
  | [] => s
  | t :: ts => (s.set t (lget s.env t).fz).fzSlots ts

noncomputable def execA (cx : Cx) (O : Oracle) (n : Nat) : AC → Code → S → (Out → S → Option Res) → Option Res
  | .skip, .skip, s, K => K .normal s
  | .dreg hs plan ms, .region _ ops true, s, K => match checkD cx ops [] [] [] plan && (Nat.beq (planLen plan) ops.size && ops.toList.all noSel) with
    | true => match hideAll s.heap (hidBlks s hs []) with
      | (hc, h) => dregA cx O ops ms plan hc [] { s with heap := h } fun s => K .normal s
    | false => none
  | .reg ms, .region _ ops false, s, K => opsA cx O ops ops.toList ms s fun s => K .normal s
  | .seq a b, .seq x y, s, K => execA cx O n a x s fun o s => match o with
    | .normal => execA cx O n b y s K
    | o => K o s
  | .cond a b, .cond c x y, s, K => match s.rdo none c with
    | .bool t => match t with
      | true => execA cx O n a x (match c with | .tmp i => s.set i (.bool true) | _ => s) K
      | false => execA cx O n b y (match c with | .tmp i => s.set i (.bool false) | _ => s) K
    | _ => none
  | .block a, .block id x, s, K => execA cx O n a x s fun o s => match o with
    | .exit i => match Nat.beq i id with
      | true => K .normal s
      | false => K (.exit i) s
    | o => K o s
  | .loop a, .loop x, s, K => aloop (execA cx O n a x) n s K
  | .loopk l a, .loop x, s, K => aloop (fun s K => execA cx O n a x s (roundK l K)) n (s.keepS l) K
  | .ret, .ret, s, K => K .ret s
  | .exit, .exit id, s, K => K (.exit id) s
  | .keep l a, x, s, K => execA cx O n a x { s with env := keepL l 0 s.env } K
  | .frz ts a, x, s, K => execA cx O n a x (s.fzSlots ts) K
  | _, _, _, _ => none

/-- A function's results, taken. -/
noncomputable def resultsA (cx : Cx) : List ResultVar → S → (List AVal → S → Option Res) → Option Res
  | [], s, K => K [] s
  | .tmp t :: l, s, K => match (lget s.env t).isRef with
    | true => none
    | false => resultsA cx l (s.set t .undef) fun vs s' => K (lget s.env t :: vs) s'
  | .cell a t :: l, s, K => match cx.ty.find t with
    | some d => match lget s.env a with
      | .ptr b o => match s.heap[b]? with
        | none => none
        | some [] => none
        | some cs => match loadC d cs o with
          | none => none
          | some v => resultsA cx l { s with heap := s.heap.set b (splice o (List.replicate v.cells.length .undef) cs) } fun vs s => K (v :: vs) s
      | _ => none
    | none => none

noncomputable def allLt (n : Nat) : List Nat → Bool
  | [] => true
  | b :: l => match Nat.blt b n with | true => allLt n l | false => false

noncomputable def single : List AVal → AVal
  | [v] => v
  | vs => .tup vs

/-- The function's end: what it made and nothing leads to is let go. -/
noncomputable def endA (cx : Cx) (rs : List ResultVar) (base : Nat) (K : AVal → List (List AVal) → Option Res) (s : S) : Option Res :=
  resultsA cx rs s fun vs s => match allLt base (single vs).ptrs && allLt base (ptrsLL (s.heap.take base)) with
    | true => K (single vs) (s.heap.take base)
    | false => K (single vs) s.heap

/-- A call of a function by its code. -/
noncomputable def funA (cx : Cx) (O : Oracle) (n : Nat) (ac : AC) (f : Func) (args : List AVal) (heap : List (List AVal)) (K : AVal → List (List AVal) → Option Res) : Option Res :=
  match f.body with
  | none => none
  | some c => execA cx O n ac c { env := args ++ List.replicate (f.ntmps - args.length) .undef, heap } fun o s => match o with
    | .exit _ => none
    | _ => endA cx f.results.toList heap.length K s

/-! ### calls by code, with a bound on their depth and rounds -/
inductive AT where
  | leaf
  | node (l : AT) (k : Nat) (ac : AC) (r : AT)
  deriving Inhabited

noncomputable def AT.find (x : AT) (t : Nat) : Option AC := AT.rec (motive := fun _ => Option AC) none (fun _ k d _ il ir => Bool.rec (motive := fun _ => Option AC) (Bool.rec (motive := fun _ => Option AC) ir il (Nat.blt t k)) (some d) (Nat.beq t k)) x

/-- prim: what is not followed by its code. -/
noncomputable def acall (cx : Cx) (fs : Nat → Option Func) (at_ : AT) (prim : Oracle) : Nat → Oracle
  | 0 => fun _ _ _ _ => none
  | n + 1 => fun g args h K => match at_.find g with
    | some ac => match fs g with
      | some f => funA cx (acall cx fs at_ prim n) n ac f args h K
      | none => none
    | none => prim g args h K

/-! ### places in code, and what goes on behind them -/
noncomputable def navC : List Nat → Code → Code
  | [], c => c
  | p :: ps, .seq x y => (match p with | 0 => navC ps x | _ => navC ps y)
  | p :: ps, .cond _ x y => (match p with | 0 => navC ps x | _ => navC ps y)
  | _ :: ps, .block _ x => navC ps x
  | _ :: ps, .loop x => navC ps x
  | _, c => c

noncomputable def navA : List Nat → AC → AC
  | [], c => c
  | p :: ps, .seq x y => (match p with | 0 => navA ps x | _ => navA ps y)
  | p :: ps, .cond x y => (match p with | 0 => navA ps x | _ => navA ps y)
  | _ :: ps, .block x => navA ps x
  | _ :: ps, .loopk _ x => navA ps x
  | _, c => c

/-- What goes on behind the code at a place. -/
noncomputable def contA (cx : Cx) (O : Oracle) (n : Nat) : List Nat → AC → Code → (Out → S → Option Res) → (Out → S → Option Res)
  | [], _, _, K => K
  | p :: ps, .seq a b, .seq x y, K => (match p with
    | 0 => contA cx O n ps a x (fun o s => match o with | .normal => execA cx O n b y s K | o => K o s)
    | _ => contA cx O n ps b y K)
  | p :: ps, .cond a b, .cond _ x y, K => (match p with
    | 0 => contA cx O n ps a x K
    | _ => contA cx O n ps b y K)
  | _ :: ps, .block a, .block id x, K => contA cx O n ps a x (fun o s => match o with
    | .exit i => match Nat.beq i id with
      | true => K .normal s
      | false => K (.exit i) s
    | o => K o s)
  | _, _, _, _ => fun _ _ => none

noncomputable def bodyC (f : Func) : Code := match f.body with | some c => c | none => .skip

/-- A function's end. -/
noncomputable def endK (cx : Cx) (f : Func) (base : Nat) (K : AVal → List (List AVal) → Option Res) : Out → S → Option Res := fun o s => match o with
  | .exit _ => none
  | _ => endA cx f.results.toList base K s

/-- A loop, from a round on. -/
noncomputable def lpA (cx : Cx) (O : Oracle) (n : Nat) (l : List Nat) (a : AC) (x : Code) (m : Nat) (s : S) (K : Out → S → Option Res) : Option Res := aloop (fun s K => execA cx O n a x s (roundK l K)) m s K

/-- What goes on behind a round's code. -/
noncomputable def kontL (cx : Cx) (O : Oracle) (n : Nat) (l : List Nat) (a : AC) (x : Code) (m : Nat) (K : Out → S → Option Res) : Out → S → Option Res := roundK l fun o s => match o with
  | .normal => lpA cx O n l a x m s K
  | o => K o s

end Go.Proofs.YtognccpmaljamaaGreatDoor.Sa

/- AS, part P1: what is not followed by its code: functions of Go's library, by what they answer (definitions only). -/
namespace Go.Proofs.YtognccpmaljamaaGreatDoor.Sa
open Go

/-- Is p ahead in s? -/
noncomputable def ahead : List UInt8 → List UInt8 → Bool
  | [], _ => true
  | _ :: _, [] => false
  | a :: p, b :: s => a == b && ahead p s

/-- The place of the first p in s; -1: there is none. -/
noncomputable def indexL (p : List UInt8) : List UInt8 → Int
  | [] => if ahead p [] then 0 else -1
  | b :: s => if ahead p (b :: s) then 0 else let r := indexL p s; if r < 0 then -1 else r + 1

noncomputable def indexB (c : Int) : List UInt8 → Int
  | [] => -1
  | b :: s => if (b.toNat : Int) == c then 0 else let r := indexB c s; if r < 0 then -1 else r + 1

noncomputable def countB (c : Int) : List UInt8 → Int
  | [] => 0
  | b :: s => (if (b.toNat : Int) == c then 1 else 0) + countB c s

/-- s with new in place of each old (old not empty); the number: rounds. -/
noncomputable def replaceL (old new : List UInt8) : Nat → List UInt8 → List UInt8
  | 0, s => s
  | _ + 1, [] => []
  | n + 1, b :: s => if ahead old (b :: s) then new ++ replaceL old new n ((b :: s).drop old.length) else b :: replaceL old new n s

noncomputable def joinL (sep : List UInt8) : List (List UInt8) → List UInt8
  | [] => []
  | [a] => a
  | a :: l => a ++ sep ++ joinL sep l

noncomputable def digitL (d : Nat) : UInt8 := if d < 10 then UInt8.ofNat (48 + d) else UInt8.ofNat (87 + d)
noncomputable def natL (base : Nat) : Nat → Nat → List UInt8 → List UInt8
  | 0, _, acc => acc
  | f + 1, n, acc => if n < base then digitL n :: acc else natL base f (n / base) (digitL (n % base) :: acc)
noncomputable def decL (n : Int) : List UInt8 := if n < 0 then 45 :: natL 10 70 (-n).toNat [] else natL 10 70 n.toNat []

noncomputable def insertS (x : List UInt8) : List (List UInt8) → List (List UInt8)
  | [] => [x]
  | y :: l => if strLess y x then y :: insertS x l else x :: y :: l
noncomputable def sortS : List (List UInt8) → List (List UInt8)
  | [] => []
  | x :: l => insertS x (sortS l)
noncomputable def compactS : List (List UInt8) → List (List UInt8)
  | [] => []
  | [x] => [x]
  | x :: y :: l => if x == y then compactS (y :: l) else x :: compactS (y :: l)

inductive Prim where
  | clone | join | replaceAll | itoa | fmtUint | indexByte | count | index | sort | compact | insert | concat
  deriving Inhabited

noncomputable def allIntsA (k : IntKind) : List (List AVal) → Option (List Int)
  | [] => some []
  | [.ints _ k' l] :: r => match decide (k = k') with
    | true => (allIntsA k r).map (l ++ ·)
    | false => none
  | _ => none

noncomputable def primA (p : Prim) (args : List AVal) (h : List (List AVal)) (K : AVal → List (List AVal) → Option Res) : Option Res :=
  match p, args with
  | .clone, [.ints _ k l] => K (.ints true k l) h
  | .clone, [.strs _ l] => K (.strs true l) h
  | .clone, [.strs2 _ l] => K (.strs2 true l) h
  | .clone, [.rows _ z l] => K (.rows true z l) h
  | .join, [.strs _ l, .str sep] => gd (decide ((joinL sep l).length ≤ LIM)) (K (.str (joinL sep l)) h)
  | .replaceAll, [.str s, .str old, .str new] => match old with
    | [] => none
    | _ => gd (decide ((replaceL old new s.length s).length ≤ LIM)) (K (.str (replaceL old new s.length s)) h)
  | .itoa, [.int _ n] => K (.str (decL n)) h
  | .fmtUint, [.int _ n, .int _ b] => gd (decide (2 ≤ b ∧ b ≤ 36)) (K (.str (natL b.toNat 70 n.toNat [])) h)
  | .indexByte, [.str s, .int _ c] => K (.int .i64 (indexB c s)) h
  | .count, [.str s, .int _ c] => K (.int .i64 (countB c s)) h
  | .index, [.str s, .str p] => K (.int .i64 (indexL p s)) h
  | .compact, [.strs true l] => K (.strs true (compactS l)) h
  | .insert, [.ints true k l, .int _ i, .ints _ k' m] => match decide (k = k') with
    | true => gd (decide (0 ≤ i ∧ i.toNat ≤ l.length ∧ l.length + m.length ≤ LIM)) (K (.ints true k (l.take i.toNat ++ m ++ l.drop i.toNat)) h)
    | false => none
  | .concat, [.rows _ _ ls] => match ls with
    | [] => none
    | _ => match allIntsA .i64 ls with
      | some l => gd (decide (l.length ≤ LIM)) (K (.ints true .i64 l) h)
      | none => none
  | _, _ => none

inductive PT where
  | leaf
  | node (l : PT) (k : Nat) (p : Prim) (r : PT)
  deriving Inhabited

noncomputable def PT.find : PT → Nat → Option Prim
  | .leaf, _ => none
  | .node l k a r, t => match Nat.beq t k with
    | true => some a
    | false => match Nat.blt t k with
      | true => l.find t
      | false => r.find t

noncomputable def primT (pt : PT) : Oracle := fun f args h K => match pt.find f with
  | some p => primA p args h K
  | none => none

end Go.Proofs.YtognccpmaljamaaGreatDoor.Sa
