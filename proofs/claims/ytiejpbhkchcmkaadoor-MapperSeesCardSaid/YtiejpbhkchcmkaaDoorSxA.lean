/-
  Sx1: symbolic values, memories of them, and an evaluator of the model's code over them. Own work; program-independent.
  Sx2: what a symbolic value says of the model's values, and how that is carried along.
  Sx3: the carrying of what values say; memory.
  Sx4: what a memory of symbolic values says of a world; loads, stores, new blocks.
  Sx5: parts, equality, arithmetic: what the evaluator says of them the model does.
  Sx6: each operation of the evaluator, held against the model.
  Sx7: addresses, parts, literals, builtins.
  Sx8: literals of structs and arrays; methods' receivers; builtins.
-/
import Derived.Tactics
import Derived.LoopN
import Derived.Below
import Derived.Laws.Tables
import Derived.Laws.Cells
import Derived.Laws.Entries
import Derived.Laws.Sem
import Derived.Laws.World
import Derived.Laws.Rows
import Derived.Laws.StructEq
namespace Go.Sx
set_option linter.unusedVariables false
set_option linter.unusedSimpArgs false

inductive PStep where
  | f (k : Nat)
  | x (i : Int)

mutual
inductive SV : Type where
  | b (x : Bool)
  | i (k : IntKind) (n : Int)
  | ptr (blk : Nat) (p : List PStep)
  | cptr (t : SV)
  | nilp
  | fn (f : FuncId)
  | ifc (t : TypeId) (v : SV)
  | nili
  | nilf
  | agg (fs : SVs)
  | arr (k : IntKind) (n : Nat) (xs : List Int)
  | sl (blk : Nat) (p : List PStep) (off len cap : Nat)
  | roi (k : IntKind) (xs : List Int)
  | ros (n : Nat) (g : Nat → SV)
  | sln (n : Int)
  | nils
  | tup (vs : SVs)
inductive SVs : Type where
  | nil
  | cons (a : SV) (l : SVs)
end

instance : Inhabited SV := ⟨.nilp⟩

def SVs.get : SVs → Nat → Option SV
  | .nil, _ => none
  | .cons a _, 0 => some a
  | .cons _ l, n + 1 => l.get n

def SVs.set : SVs → Nat → SV → SVs
  | .nil, _, _ => .nil
  | .cons _ l, 0, v => .cons v l
  | .cons a l, n + 1, v => .cons a (l.set n v)

def SVs.ofList : List SV → SVs
  | [] => .nil
  | a :: l => .cons a (SVs.ofList l)

mutual
def SV.size : SV → Nat
  | .agg fs => fs.size
  | .arr _ n _ => n
  | _ => 1
def SVs.size : SVs → Nat
  | .nil => 0
  | .cons a l => a.size + l.size
end

/-- Is it a struct's or an array's value? -/
def SV.isA : SV → Bool
  | .agg _ => true
  | .arr .. => true
  | _ => false

def SV.isTup : SV → Bool
  | .tup _ => true
  | _ => false

def kindEq : IntKind → IntKind → Bool
  | .i8, .i8 | .i16, .i16 | .i32, .i32 | .i64, .i64 | .u8, .u8 | .u16, .u16 | .u32, .u32 | .u64, .u64 => true
  | _, _ => false

/-- The cells ahead of field k, and the field. -/
def SVs.pre : SVs → Nat → Option (Nat × SV)
  | .nil, _ => none
  | .cons a _, 0 => some (0, a)
  | .cons a l, k + 1 => match l.pre k with
    | some (o, t) => some (a.size + o, t)
    | none => none

mutual
def SV.same : SV → SV → Bool
  | .agg u, .agg v => u.same v
  | .arr k n _, .arr k' n' _ => kindEq k k' && Nat.beq n n'
  | .agg _, _ => false
  | .arr .., _ => false
  | .tup _, _ => false
  | _, .agg _ => false
  | _, .arr .. => false
  | _, .tup _ => false
  | _, _ => true
def SVs.same : SVs → SVs → Bool
  | .nil, .nil => true
  | .cons u l, .cons v m => u.same v && l.same m
  | _, _ => false
end

def SV.get : SV → List PStep → Option SV
  | t, [] => some t
  | .agg fs, .f k :: p => match fs.get k with
    | some a => SV.get a p
    | none => none
  | .arr k _ xs, [.x ix] => some (.i k (xs.getD ix.toNat 0))
  | _, _ => none

def SV.put : SV → List PStep → SV → Option SV
  | t, [], v => match t.same v with
    | true => some v
    | false => none
  | .agg fs, .f k :: p, v => match fs.get k with
    | some a => match SV.put a p v with
      | some a' => some (.agg (fs.set k a'))
      | none => none
    | none => none
  | .arr k n xs, [.x ix], .i k' m => match kindEq k k' with
    | true => some (.arr k n (xs.set ix.toNat m))
    | false => none
  | _, _, _ => none

/-! ### Arithmetic, under names -/
def iand (k : IntKind) (x y : Int) : Int := k.wrap (BitVec.ofInt k.bits x &&& BitVec.ofInt k.bits y).toNat
def ior (k : IntKind) (x y : Int) : Int := k.wrap (BitVec.ofInt k.bits x ||| BitVec.ofInt k.bits y).toNat
def ixor (k : IntKind) (x y : Int) : Int := k.wrap (BitVec.ofInt k.bits x ^^^ BitVec.ofInt k.bits y).toNat
def iandn (k : IntKind) (x y : Int) : Int := k.wrap (BitVec.ofInt k.bits x &&& ~~~BitVec.ofInt k.bits y).toNat
def ishl (k : IntKind) (x y : Int) : Int := k.wrap (x * 2 ^ (min y.toNat k.bits))
def ishr (k : IntKind) (x y : Int) : Int := x.fdiv (2 ^ (min y.toNat k.bits))

/-! ### What a program says of its types -/
def aggT (P : Program) (t : TypeId) : Option Bool :=
  match P.underlying t with
  | some (.struct _) => some true
  | some (.array _ _) => some true
  | some _ => some false
  | none => none

def ldOK (P : Program) (T : TypeId) (t : SV) : Bool :=
  match aggT P T with
  | some true => t.isA && (Nat.beq t.size (P.cellsOf T) && !Nat.beq t.size 0)
  | some false => !t.isA && !t.isTup
  | none => false

/-- The place and the size of a field, by the type. -/
def fOff (P : Program) (T : TypeId) (f : Nat) : Option (Nat × TypeId) :=
  match P.underlying T with
  | some (.struct fs) => match fs[f]? with
    | some fl => some (fl.offset, fl.type)
    | none => none
  | _ => none

/-! ### Equality of two values, by the type -/
def intKindOf (P : Program) (T : TypeId) : Option IntKind :=
  match P.underlying T with
  | some (.int k) => some k
  | _ => none

/-- The fields one by one, by an equality of parts. -/
def eqF (P : Program) (eq : TypeId → SV → SV → Option Bool) : List Field → Nat → SVs → SVs → Option Bool
  | [], _, .nil, .nil => some true
  | f :: fl, o, .cons x xs, .cons y ys =>
    match Nat.beq f.offset o && (Nat.beq (P.cellsOf f.type) x.size && (Nat.beq x.size y.size && (ldOK P f.type x && ldOK P f.type y))), decide (f.name = "_") with
    | true, false => match eq f.type x y, eqF P eq fl (o + x.size) xs ys with
      | some p, some q => some (p && q)
      | _, _ => none
    | _, _ => none
  | _, _, _, _ => none
/-- Equality by the type: none where it is not told. (Fuel: the types' depth.) -/
def eqT (P : Program) : Nat → TypeId → SV → SV → Option Bool
  | 0, _, _, _ => none
  | d + 1, T, x, y =>
    match P.underlying T with
    | some .bool => match x, y with
      | .b p, .b q => some (p == q)
      | _, _ => none
    | some (.int _) => match x, y with
      | .i k m, .i k' n => match kindEq k k' with
        | true => some (m == n)
        | false => none
      | _, _ => none
    | some (.struct fs) => match P.stoodInHeld T with
      | true => none
      | false => match x, y with
        | .agg xs, .agg ys => eqF P (eqT P d) fs.toList 0 xs ys
        | _, _ => none
    | some (.array n e) => match x, y with
      | .arr k m xs, .arr k' m' ys =>
        match kindEq k k' && (Nat.beq n m && (Nat.beq n m' && Nat.beq (P.cellsOf e) 1)), P.underlying e with
        | true, some (.int _) => some (decide (xs = ys))
        | _, _ => none
      | _, _ => none
    | _ => none

/-! ### The frame -/
inductive Sl where
  | v (x : SV)
  | opt (s : Tmp) (w : Bool) (x : SV)

def lookE : List (Tmp × SV) → Tmp → Option SV
  | [], _ => none
  | (s, v) :: l, t => match Nat.beq s t with
    | true => some v
    | false => lookE l t

def lookL : List (Tmp × Sl) → Tmp → Option Sl
  | [], _ => none
  | (s, v) :: l, t => match Nat.beq s t with
    | true => some v
    | false => lookL l t

def inCh : List (Tmp × Bool) → Tmp → Bool → Bool
  | [], _, _ => false
  | (s, w) :: l, t, u => (Nat.beq s t && (w == u)) || inCh l t u

def slotV (ch : List (Tmp × Bool)) : Sl → Option SV
  | .v x => some x
  | .opt s w x => match inCh ch s w with
    | true => some x
    | false => none

def evT (env : List (Tmp × SV)) (loc : List (Tmp × Sl)) (ch : List (Tmp × Bool)) (t : Tmp) : Option SV :=
  match lookL loc t with
  | some s => slotV ch s
  | none => lookE env t

def ofConst : Value → Option SV
  | .bool x => some (.b x)
  | .int k n => some (.i k n)
  | .pointer none => some .nilp
  | .nilIface => some .nili
  | .slice none 0 0 => some .nils
  | _ => none

def evO (glob : Nat → Option SV) (env : List (Tmp × SV)) (loc : List (Tmp × Sl)) (ch : List (Tmp × Bool)) : Operand → Option SV
  | .tmp t => evT env loc ch t
  | .const v => ofConst v
  | .global g => match glob g with
    | some t => some (.cptr t)
    | none => none
  | .func f => some (.fn f)

/-- The guards ahead of a guard's slot. -/
def chain (loc : List (Tmp × Sl)) : Nat → Tmp → List (Tmp × Bool)
  | 0, _ => []
  | n + 1, s => match lookL loc s with
    | some (.opt s' w' _) => (s', w') :: chain loc n s'
    | _ => []

/-- The guards' own value: all of them. -/
def guardB (env : List (Tmp × SV)) (loc : List (Tmp × Sl)) : List (Tmp × Bool) → Option Bool
  | [] => some true
  | (s, w) :: l => match evT env loc l s, guardB env loc l with
    | some (.b x), some r => some (match w with
      | true => x && r
      | false => !x && r)
    | _, _ => none

def evAll (ev : Operand → Option SV) : List Operand → Option (List SV)
  | [] => some []
  | o :: l => match ev o, evAll ev l with
    | some v, some vs => some (v :: vs)
    | _, _ => none

/-! ### The operations -/
abbrev Mem := List SV
abbrev CallT := FuncId → List SV → Mem → (SV → Mem → Prop) → Prop

def setM : Mem → Nat → SV → Mem
  | [], _, _ => []
  | _ :: l, 0, v => v :: l
  | a :: l, n + 1, v => a :: setM l n v

def getM : Mem → Nat → Option SV
  | [], _ => none
  | a :: _, 0 => some a
  | _ :: l, n + 1 => getM l n

def onB (x : Bool) (K : Prop) : Prop := match x with
  | true => K
  | false => False

def ptrT (P : Program) (T : TypeId) : Bool :=
  match P.underlying T with
  | some (.pointer _) => true
  | _ => false

def binK (P : Program) (op : BinOp) (T : TypeId) (a b : SV) (K : SV → Prop) : Prop :=
  match op with
  | .add => match a, b with
    | .i k x, .i k' y => onB (kindEq k k') (K (.i k (k.wrap (x + y))))
    | _, _ => False
  | .sub => match a, b with
    | .i k x, .i k' y => onB (kindEq k k') (K (.i k (k.wrap (x - y))))
    | _, _ => False
  | .mul => match a, b with
    | .i k x, .i k' y => onB (kindEq k k') (K (.i k (k.wrap (x * y))))
    | _, _ => False
  | .quo => match a, b with
    | .i k x, .i k' y => onB (kindEq k k') (onB (!decide (y = 0)) (K (.i k (k.wrap (x.tdiv y)))))
    | _, _ => False
  | .rem => match a, b with
    | .i k x, .i k' y => onB (kindEq k k') (onB (!decide (y = 0)) (K (.i k (x.tmod y))))
    | _, _ => False
  | .and => match a, b with
    | .i k x, .i k' y => onB (kindEq k k') (K (.i k (iand k x y)))
    | _, _ => False
  | .or => match a, b with
    | .i k x, .i k' y => onB (kindEq k k') (K (.i k (ior k x y)))
    | _, _ => False
  | .xor => match a, b with
    | .i k x, .i k' y => onB (kindEq k k') (K (.i k (ixor k x y)))
    | _, _ => False
  | .andNot => match a, b with
    | .i k x, .i k' y => onB (kindEq k k') (K (.i k (iandn k x y)))
    | _, _ => False
  | .shl => match a, b with
    | .i k x, .i _ y => onB (!decide (y < 0)) (K (.i k (ishl k x y)))
    | _, _ => False
  | .shr => match a, b with
    | .i k x, .i _ y => onB (!decide (y < 0)) (K (.i k (ishr k x y)))
    | _, _ => False
  | .lss => match a, b with
    | .i k x, .i k' y => onB (kindEq k k') (K (.b (decide (x < y))))
    | _, _ => False
  | .leq => match a, b with
    | .i k x, .i k' y => onB (kindEq k k') (K (.b (decide (x ≤ y))))
    | _, _ => False
  | .gtr => match a, b with
    | .i k x, .i k' y => onB (kindEq k k') (K (.b (decide (y < x))))
    | _, _ => False
  | .geq => match a, b with
    | .i k x, .i k' y => onB (kindEq k k') (K (.b (decide (y ≤ x))))
    | _, _ => False
  | .eql => match a, b with
    | .i k x, .i k' y => onB (kindEq k k') (K (.b (x == y)))
    | .agg _, .agg _ => match P.eqGuardType P.depth T, eqT P 30 T a b with
      | false, some r => K (.b r)
      | _, _ => False
    | .arr .., .arr .. => match P.eqGuardType P.depth T, eqT P 30 T a b with
      | false, some r => K (.b r)
      | _, _ => False
    | .b _, .b _ => match eqT P 30 T a b with
      | some r => K (.b r)
      | none => False
    | .nilp, .nilp => onB (ptrT P T) (K (.b true))
    | .ptr .., .nilp => onB (ptrT P T) (K (.b false))
    | .cptr _, .nilp => onB (ptrT P T) (K (.b false))
    | _, _ => False
  | .neq => match a, b with
    | .i k x, .i k' y => onB (kindEq k k') (K (.b (x != y)))
    | .agg _, .agg _ => match P.eqGuardType P.depth T, eqT P 30 T a b with
      | false, some r => K (.b (!r))
      | _, _ => False
    | .arr .., .arr .. => match P.eqGuardType P.depth T, eqT P 30 T a b with
      | false, some r => K (.b (!r))
      | _, _ => False
    | .b _, .b _ => match eqT P 30 T a b with
      | some r => K (.b (!r))
      | none => False
    | .nilp, .nilp => onB (ptrT P T) (K (.b false))
    | .ptr .., .nilp => onB (ptrT P T) (K (.b true))
    | .cptr _, .nilp => onB (ptrT P T) (K (.b true))
    | _, _ => False

def unK (op : UnOp) (a : SV) (K : SV → Prop) : Prop :=
  match op with
  | .neg => match a with
    | .i k n => K (.i k (k.wrap (0 - n)))
    | _ => False
  | .xor => match a with
    | .i k n => K (.i k (ixor k (match k.signed with
      | true => -1
      | false => k.max) n))
    | _ => False
  | .not => match a with
    | .b x => K (.b (!x))
    | _ => False
  | .plus => False

/-- An array by the type: its length, its element's kind (an element is one cell). -/
def arrT (P : Program) (T : TypeId) : Option (Nat × TypeId) :=
  match P.underlying T with
  | some (.array n e) => some (n, e)
  | _ => none

def sliT (P : Program) (T : TypeId) : Option TypeId :=
  match P.underlying T with
  | some (.slice e) => some e
  | _ => none

def fieldK (P : Program) (T : TypeId) (f : Nat) (t : SV) (K : SV → Prop) : Prop :=
  match t with
  | .agg fs => match fOff P T f, fs.pre f with
    | some (o, ft), some (o', a) => onB (Nat.beq o o' && (Nat.beq (P.cellsOf ft) a.size && !Nat.beq a.size 0)) (K a)
    | _, _ => False
  | _ => False

def inB (i : Int) (n : Nat) : Bool := decide (0 ≤ i) && decide (i < n)

def pickK (x : Bool) (a b : SV) (K : SV → Prop) : Prop :=
  match a, b with
  | .b p, .b q => K (.b (cond x p q))
  | .i k p, .i k' q => onB (kindEq k k') (K (.i k (cond x p q)))
  | _, _ => match x with
    | true => K a
    | false => K b


/-! ### Which values lead where -/
mutual
/-- Every own block that the value names lies below n. -/
def SV.cl (n : Nat) : SV → Bool
  | .ptr blk _ => Nat.blt blk n
  | .sl blk _ _ _ _ => Nat.blt blk n
  | .ifc _ v => v.cl n
  | .agg fs => fs.cl n
  | .tup vs => vs.cl n
  | _ => true
def SVs.cl (n : Nat) : SVs → Bool
  | .nil => true
  | .cons a l => a.cl n && l.cl n
end
mutual
/-- No pointer and no slice but nil. -/
def SV.dat : SV → Bool
  | .ptr .. => false
  | .cptr _ => false
  | .sl .. => false
  | .roi .. => false
  | .ros .. => false
  | .sln _ => false
  | .ifc _ v => v.dat
  | .agg fs => fs.dat
  | .tup vs => vs.dat
  | _ => true
def SVs.dat : SVs → Bool
  | .nil => true
  | .cons a l => a.dat && l.dat
end
def clAll (n : Nat) : List SV → Bool
  | [] => true
  | v :: l => v.cl n && clAll n l

inductive Con where
  /-- reads no memory of the caller's, writes none: the arguments alone -/
  | pure (pre : List SV → Prop) (f : List SV → Option SV)
  /-- works on the block that its first argument points to -/
  | mth (pt : SV → List SV → (SV → SV → Prop) → Prop)

structure St where
  env : List (Tmp × SV)
  mem : Mem

abbrev Kont := Exit → St → Prop

/-- What is known of a loop: from a state at its head (some slots, some blocks) to its ends. -/
structure LCon where
  keep : List Tmp
  pt : St → Kont → Prop

structure Env where
  P : Program
  zero : TypeId → Option SV
  glob : Nat → Option SV
  meth : TypeId → String → Option (FuncId × Nat)
  gam : FuncId → Option Con
  loop : FuncId → Nat → Option LCon
  det : Bool := false

def fillP (P : Program) (T : TypeId) : SV → List (Nat × SV) → Option SV
  | z, [] => some z
  | .agg fs, (i, v) :: l => match fs.pre i with
    | some (o, old) => match (match P.underlying T with
        | some (.struct flds) => (match flds[i]? with
          | some fl => Nat.beq fl.offset o && Nat.beq (P.cellsOf fl.type) v.size
          | none => false)
        | some (.array _ e) => Nat.beq (i * P.cellsOf e) o && Nat.beq (P.cellsOf e) v.size
        | _ => false) && (old.same v) with
      | true => fillP P T (.agg (fs.set i v)) l
      | false => none
    | none => none
  | .arr k n xs, (i, .i k' m) :: l => match (match P.underlying T with
        | some (.array _ e) => Nat.beq (P.cellsOf e) 1
        | _ => false) && (kindEq k k' && Nat.blt i n) with
    | true => fillP P T (.arr k n (xs.set i m)) l
    | false => none
  | _, _ => none

def evParts (ev : Operand → Option SV) : List (Nat × Operand) → Option (List (Nat × SV))
  | [] => some []
  | (i, o) :: l => match ev o, evParts ev l with
    | some v, some vs => some ((i, v) :: vs)
    | _, _ => none

def okF (P : Program) (f : FuncId) : Bool :=
  match P.funcs[f]? with
  | some fn => !(fn.name == "runtime.NumGoroutine") && fn.body.isSome
  | none => false

/-- A place in memory read as a value of a type. -/
def loadK (P : Program) (T : TypeId) (p : SV) (M : Mem) (K : SV → Prop) : Prop :=
  match p with
  | .ptr b p => match getM M b with
    | some t => match SV.get t p with
      | some v => onB (ldOK P T v) (K v)
      | none => False
    | none => False
  | .cptr v => onB (ldOK P T v) (K v)
  | _ => False

def storeK (P : Program) (T : TypeId) (p v : SV) (M : Mem) (K : Mem → Prop) : Prop :=
  match p with
  | .ptr b p => match getM M b with
    | some t => match SV.put t p v with
      | some t' => onB (Nat.beq v.size (P.cellsOf T) && (!Nat.beq v.size 0 && !v.isTup)) (K (setM M b t'))
      | none => False
    | none => False
  | _ => False

def fieldAddrK (P : Program) (T : TypeId) (f : Nat) (p : SV) (M : Mem) (K : SV → Prop) : Prop :=
  match p with
  | .ptr b p => match getM M b with
    | some t => match SV.get t p with
      | some v => fieldK P T f v (fun _ => K (.ptr b (p ++ [.f f])))
      | none => False
    | none => False
  | .cptr v => fieldK P T f v (fun a => K (.cptr a))
  | _ => False

/-- An element of an array's value. -/
def elemK (P : Program) (T : TypeId) (t : SV) (ix : Int) (K : PStep → SV → Prop) : Prop :=
  match arrT P T with
  | some (n, e) => match t with
    | .arr k m xs => onB (Nat.beq n m && Nat.beq (P.cellsOf e) 1) (onB (inB ix n) (K (.x ix) (.i k (xs.getD ix.toNat 0))))
    | .agg fs => onB (inB ix n) (match fs.pre ix.toNat with
      | some (o, a) => onB (Nat.beq o (ix.toNat * P.cellsOf e) && (Nat.beq a.size (P.cellsOf e) && !Nat.beq a.size 0)) (K (.f ix.toNat) a)
      | none => False)
    | _ => False
  | none => False

def indexAddrK (P : Program) (T : TypeId) (p : SV) (ix : SV) (M : Mem) (K : SV → Prop) : Prop :=
  match ix with
  | .i _ n => match p with
    | .ptr b p => match getM M b with
      | some t => match SV.get t p with
        | some v => elemK P T v n (fun s _ => K (.ptr b (p ++ [s])))
        | none => False
      | none => False
    | .cptr v => elemK P T v n (fun _ a => K (.cptr a))
    | .sl b p off len _ => match sliT P T with
      | some e => onB (Nat.beq (P.cellsOf e) 1) (onB (inB n len) (K (.ptr b (p ++ [.x (Int.ofNat off + n)]))))
      | none => False
    | .roi k xs => match sliT P T with
      | some e => onB (Nat.beq (P.cellsOf e) 1) (onB (inB n xs.length) (K (.cptr (.i k (xs.getD n.toNat 0)))))
      | none => False
    | .ros m g => match sliT P T with
      | some e => onB (inB n m) (onB (Nat.beq (g n.toNat).size (P.cellsOf e) && !Nat.beq (P.cellsOf e) 0) (K (.cptr (g n.toNat))))
      | none => False
    | _ => False
  | _ => False

def indexK (P : Program) (T : TypeId) (t ix : SV) (K : SV → Prop) : Prop :=
  match ix with
  | .i _ n => elemK P T t n (fun _ a => match arrT P T with
      | some (_, e) => onB (ldOK P e a) (K a)
      | none => False)
  | _ => False

def ptrsTo (M : Mem) (v : SV) (d : Nat) : Option SV :=
  match v with
  | .ptr b q => match getM M b with
    | some t => match SV.get t (q ++ List.replicate d (.f 0)) with
      | some _ => some (.ptr b (q ++ List.replicate d (.f 0)))
      | none => none
    | none => none
  | _ => none

def bldOK (P : Program) (T : TypeId) : Bool :=
  match P.underlying T with
  | some (.struct fs) => fs.toList.all (fun f => (P.info? f.type).isSome)
  | some (.array _ e) => (P.info? e).isSome
  | _ => false

def minAll (lt : Int → Int → Bool) (k : IntKind) : Int → List SV → Option SV
  | x, [] => some (.i k x)
  | x, .i k' y :: l => match kindEq k k' with
    | true => minAll lt k (cond (lt y x) y x) l
    | false => none
  | _, _ => none

def builtinK (P : Program) (b : Builtin) (argTypes : Array TypeId) (args : List SV) (M : Mem) (K : SV → Mem → Prop) : Prop :=
  match b with
  | .len => match args, argTypes[0]? with
    | [x], some t => match P.underlying t with
      | some (.slice _) => match x with
        | .sl _ _ _ len _ => K (.i .i64 len) M
        | .roi _ xs => K (.i .i64 xs.length) M
        | .ros n _ => K (.i .i64 n) M
        | .sln n => K (.i .i64 n) M
        | .nils => K (.i .i64 0) M
        | _ => False
      | some (.array n _) => K (.i .i64 n) M
      | _ => False
    | _, _ => False
  | .min => match args with
    | .i k x :: l => match minAll (fun y x => decide (y < x)) k x l with
      | some v => K v M
      | none => False
    | _ => False
  | .max => match args with
    | .i k x :: l => match minAll (fun y x => decide (x < y)) k x l with
      | some v => K v M
      | none => False
    | _ => False
  | _ => False

def callK (E : Env) (call : CallT) (c : Call) (ev : Operand → Option SV) (M : Mem) (K : SV → Mem → Prop) : Prop :=
  match evAll ev c.args.toList with
  | none => False
  | some args => match c.callee with
    | .value f => match ev f with
      | some (.fn g) => onB (okF E.P g) (call g args M K)
      | _ => False
    | .invoke r name => match ev r with
      | some (.ifc t v) => match E.meth t name with
        | some (g, d) => match ptrsTo M v d with
          | some v' => onB (okF E.P g) (call g (v' :: args) M K)
          | none => False
        | none => False
      | _ => False
    | .builtin b => builtinK E.P b c.argTypes args M K

/-- What a slice's making asks. -/
structure mkOK (n m : Int) : Prop where
  eq : n = m
  lo : 0 ≤ n
  hi : n ≤ 1099511627776

def opK (E : Env) (call : CallT) (o : Oper) (ev : Operand → Option SV) (M : Mem) (K : SV → Mem → Prop) : Prop :=
  match o.op with
  | .move x => match ev x with
    | some v => K v M
    | none => False
  | .assign x => match ev x with
    | some v => K v M
    | none => False
  | .alloc T => match E.zero T with
    | some z => K (.ptr M.length []) (M ++ [z])
    | none => False
  | .box _ x => match ev x with
    | some v => onB (!v.isTup) (K (.ptr M.length []) (M ++ [v]))
    | none => False
  | .build T parts => match E.zero T, evParts ev parts.toList with
    | some z, some ps => match z.isA && bldOK E.P T, fillP E.P T z ps with
      | true, some v => K v M
      | _, _ => False
    | _, _ => False
  | .load T x => match ev x with
    | some p => loadK E.P T p M (fun v => K v M)
    | none => False
  | .store T x y => match o.dst, ev x, ev y with
    | none, some p, some v => storeK E.P T p v M (fun M' => K (.b false) M')
    | _, _, _ => False
  | .nilCheck x => match ev x with
    | some (.ptr b p) => K (.ptr b p) M
    | some (.cptr t) => K (.cptr t) M
    | some (.fn f) => K (.fn f) M
    | some (.ifc t v) => K (.ifc t v) M
    | _ => False
  | .binOp op T x y _ => match ev x, ev y with
    | some a, some b => binK E.P op T a b (fun v => K v M)
    | _, _ => False
  | .unOp op _ x => match ev x with
    | some a => unK op a (fun v => K v M)
    | none => False
  | .convert s d x => match ev x with
    | some (.i _ n) => match intKindOf E.P s, intKindOf E.P d with
      | some _, some k => K (.i k (k.wrap n)) M
      | _, _ => False
    | _ => False
  | .makeInterface T x => match ev x with
    | some v => match E.P.underlying T with
      | some (.interface _) => False
      | some _ => onB (!v.isA && !v.isTup) (K (.ifc T v) M)
      | none => False
    | none => False
  | .typeAssert x _ T ok => match ev x, ok with
    | some (.ifc t v), true => match E.P.underlying T with
      | some (.interface _) => False
      | some _ => match Nat.beq t T with
        | true => K (.tup (.cons v (.cons (.b true) .nil))) M
        | false => match E.zero T with
          | some z => K (.tup (.cons z (.cons (.b false) .nil))) M
          | none => False
      | none => False
    | _, _ => False
  | .makeSlice T l c => match ev l, ev c with
    | some (.i _ n), some (.i _ m) => match sliT E.P T with
      | some e => match E.P.info? e, E.zero e with
        | some i, some _ => onB (Nat.ble i.bytes 8) (mkOK n m ∧ K (.sln n) M)
        | _, _ => False
      | none => False
    | _, _ => False
  | .fieldAddr T x f => match ev x with
    | some p => fieldAddrK E.P T f p M (fun v => K v M)
    | none => False
  | .field T x f => match ev x with
    | some t => fieldK E.P T f t (fun v => match fOff E.P T f with
      | some (_, ft) => onB (ldOK E.P ft v) (K v M)
      | none => False)
    | none => False
  | .indexAddr T x ix => match ev x, ev ix with
    | some p, some n => indexAddrK E.P T p n M (fun v => K v M)
    | _, _ => False
  | .index T x ix => match ev x, ev ix with
    | some t, some n => indexK E.P T t n (fun v => K v M)
    | _, _ => False
  | .extract x n => match ev x with
    | some (.tup vs) => match vs.get n with
      | some v => onB (!v.isTup) (K v M)
      | none => False
    | _ => False
  | .call c => callK E call c ev M K
  | _ => False

/-- May an operation be reckoned though its guard may be false? -/
def quiet : Op → Bool
  | .move _ => true
  | .load .. => true
  | .binOp .. => true
  | .unOp .. => true
  | .convert .. => true
  | .fieldAddr .. => true
  | .field .. => true
  | .nilCheck _ => true
  | .extract .. => true
  | .pick .. => true
  | _ => false

/-- The same, by what is at hand: not through a pointer that is none, and no division or shift by what is not known. -/
def quietAt (op : Op) (ev : Operand → Option SV) : Bool :=
  match op with
  | .load _ x => (match ev x with
    | some (.b _) => false
    | _ => true)
  | .fieldAddr _ x _ => (match ev x with
    | some (.b _) => false
    | _ => true)
  | .binOp o _ _ y _ => (match o, y with
    | _, .const _ => true
    | .shl, _ => false
    | .shr, _ => false
    | .quo, _ => false
    | .rem, _ => false
    | _, _ => true)
  | o => quiet o

def fresh : List (Tmp × Sl) → Tmp → Bool
  | [], _ => true
  | (s, _) :: l, t => !Nat.beq s t && fresh l t

def putL (nt : Nat) (loc : List (Tmp × Sl)) (d : Option Tmp) (s : Sl) (K : List (Tmp × Sl) → Prop) : Prop :=
  match d with
  | none => K loc
  | some t => onB (fresh loc t && Nat.blt t nt) (K ((t, s) :: loc))

/-- One operation whose operands are read under a chain of guards. -/
def stepK (E : Env) (call : CallT) (o : Oper) (env : List (Tmp × SV)) (loc : List (Tmp × Sl)) (ch : List (Tmp × Bool)) (M : Mem) (K : SV → Mem → Prop) : Prop :=
  match o.op with
  | .pick (.tmp s) x y => match evT env loc ch s, evO E.glob env loc ((s, true) :: ch) x, evO E.glob env loc ((s, false) :: ch) y with
    | some (.b c), some a, some b => match x, y with
      | .const (.bool true), _ => (match b with
        | .b q => K (.b (c || q)) M
        | _ => pickK c a b (fun v => K v M))
      | _, .const (.bool false) => (match a with
        | .b p => K (.b (c && p)) M
        | _ => pickK c a b (fun v => K v M))
      | _, _ => pickK c a b (fun v => K v M)
    | _, _, _ => False
  | _ => opK E call o (evO E.glob env loc ch) M K

def dflt (E : Env) (t : TypeId) : SV := (E.zero t).getD (.b false)

def regK (E : Env) (call : CallT) (nt : Nat) (ops : Array Oper) : List Oper → List (Tmp × Sl) → List (Tmp × SV) → Mem → (List (Tmp × Sl) → Mem → Prop) → Prop
  | [], loc, _, M, K => K loc M
  | o :: rest, loc, env, M, K =>
    match o.guard with
    | none => stepK E call o env loc [] M (fun v M' => putL nt loc o.dst (.v v) (fun loc' => regK E call nt ops rest loc' env M' K))
    | some (j, w) => match (ops[j]?).bind (·.dst) with
      | none => False
      | some s => match fresh loc s with
        | true => False
        | false => match quietAt o.op (evO E.glob env loc ((s, w) :: chain loc 8 s)) with
          | true => stepK E call o env loc ((s, w) :: chain loc 8 s) M (fun v M' => putL nt loc o.dst (.opt s w v) (fun loc' => regK E call nt ops rest loc' env M' K))
          | false => match guardB env loc ((s, w) :: chain loc 8 s) with
            | none => False
            | some true => stepK E call o env loc ((s, w) :: chain loc 8 s) M (fun v M' => putL nt loc o.dst (.opt s w v) (fun loc' => regK E call nt ops rest loc' env M' K))
            | some false => putL nt loc o.dst (.opt s w (dflt E o.type)) (fun loc' => regK E call nt ops rest loc' env M K)

def flush : List (Tmp × Sl) → List (Tmp × SV) → List (Tmp × SV)
  | [], env => env
  | (t, .v x) :: l, env => (t, x) :: flush l env
  | (_, .opt ..) :: l, env => flush l env

/-- The slots that a region has written under a guard are lost behind it. -/
def noOpt : List (Tmp × Sl) → List (Tmp × SV) → Bool
  | [], _ => true
  | (_, .v _) :: l, env => noOpt l env
  | (t, .opt ..) :: l, env => (lookE (flush l env) t).isNone && noOpt l env

def keepE (env : List (Tmp × SV)) : List Tmp → Option (List (Tmp × SV))
  | [] => some []
  | t :: l => match lookE env t, keepE env l with
    | some v, some r => some ((t, v) :: r)
    | _, _ => none

def clE (n : Nat) : List (Tmp × SV) → Bool
  | [] => true
  | (_, v) :: l => v.cl n && clE n l

/-- A state at a loop's head: some slots alone, some blocks alone. -/
def normSt (keep : List Tmp) (n : Nat) (st : St) : Option St :=
  match keepE st.env keep with
  | some e => match clE n e && clAll n (st.mem.take n) with
    | true => some ⟨e, st.mem.take n⟩
    | false => none
  | none => none


def rounds (body : St → Kont → Prop) (K : Kont) : Nat → St → Prop
  | 0, _ => False
  | n + 1, st => body st (fun e st' => match e with
    | .normal => rounds body K n st'
    | e => K e st')

def roundsN (keep : List Tmp) (m : Nat) (body : St → Kont → Prop) (K : Kont) : Nat → St → Prop
  | 0, _ => False
  | n + 1, st => body st (fun e st' => match normSt keep m st' with
    | some s => (match e with
      | .normal => roundsN keep m body K n s
      | e => K e s)
    | none => False)

/-! ### Regions whose order is open: the text's order, where no other one differs -/
def tmpsOf : List Operand → List Tmp
  | [] => []
  | .tmp t :: l => t :: tmpsOf l
  | _ :: l => tmpsOf l

def memT : List Tmp → Tmp → Bool
  | [], _ => false
  | s :: l, t => Nat.beq s t || memT l t

def isStore : Op → Bool
  | .store .. => true
  | .alloc .. => true
  | .box .. => true
  | _ => false

/-- What a new variable holds. -/
def bornV (E : Env) (op : Op) (ev : Operand → Option SV) : Option SV :=
  match op with
  | .alloc T => E.zero T
  | .box _ x => (match ev x with
    | some v => (match v.isTup with
      | true => none
      | false => some v)
    | none => none)
  | _ => none

def anc (ops : Array Oper) (p j : Nat) : Bool := ((Region.before ops).getD j 0).testBit p

/-- A call that may make and change memory. -/
def isImp (E : Env) (op : Op) : Bool :=
  match op with
  | .call c => (match c.callee with
    | .value (.func f) => (match E.gam f with
      | some (.pure ..) => false
      | _ => true)
    | .value _ => false
    | .invoke .. => true
    | .builtin _ => false)
  | _ => false
def isMem (E : Env) (op : Op) : Bool := isStore op || isImp E op
def memG (M : Mem) (b : Nat) (p : List PStep) : Option SV := match getM M b with
  | some t => SV.get t p
  | none => none

/-- What op j looks at that op p writes, p is ahead of j; no slot is written twice; stores are in order. -/
def pairOK (E : Env) (ops : Array Oper) (p j : Nat) : Bool :=
  match ops[p]?, ops[j]? with
  | some a, some b =>
    (match a.dst with
      | none => true
      | some t => (Nat.beq p j || (match b.dst with
          | some u => !Nat.beq t u
          | none => true)) &&
        (!(memT (tmpsOf b.op.operands.toList) t || (match b.guard with
          | some (g, _) => Nat.beq g p
          | none => false)) || (anc ops p j && Nat.blt p j))) &&
    (!(isMem E a.op && isMem E b.op && Nat.blt p j) || anc ops p j)
  | _, _ => false

def allN (f : Nat → Bool) : Nat → Bool
  | 0 => true
  | n + 1 => f n && allN f n

def drOK (E : Env) (ops : Array Oper) : Bool := allN (fun j => Nat.blt ((Region.before ops).getD j 0) (2 ^ j) && allN (fun p => pairOK E ops p j) ops.size) ops.size

def foot (op : Op) (ev : Operand → Option SV) : Option (Nat × List PStep) :=
  match op with
  | .load _ x => match ev x with
    | some (.ptr b p) => some (b, p)
    | _ => none
  | .fieldAddr _ x _ => match ev x with
    | some (.ptr b p) => some (b, p)
    | _ => none
  | .indexAddr _ x _ => match ev x with
    | some (.ptr b p) => some (b, p)
    | _ => none
  | _ => none

def diverge : List PStep → List PStep → Bool
  | .f k :: p, .f l :: q => !Nat.beq k l || diverge p q
  | _, _ => false

abbrev Foot := Nat × Nat × List PStep

def disjAll (ops : Array Oper) : List Foot → List Foot → Bool
  | [], _ => true
  | (i, b, p) :: l, wr => (wr.all fun x => anc ops i x.1 || (anc ops x.1 i || (!Nat.beq b x.2.1 || diverge p x.2.2))) && disjAll ops l wr

def noCall : CallT := fun _ _ _ _ => False

/-- A call of a function that is known as a function of its arguments. -/
def callD (E : Env) (c : Call) (ev : Operand → Option SV) (M : Mem) (K : SV → Prop) : Prop :=
  match evAll ev c.args.toList with
  | none => False
  | some args => match c.callee with
    | .value f => match ev f with
      | some (.fn g) => match E.gam g with
        | some (.pure pre f) => match f args with
          | some r => onB (okF E.P g && clAll 0 args) (pre args ∧ K r)
          | none => False
        | _ => False
      | _ => False
    | .invoke .. => False
    | .builtin b => builtinK E.P b c.argTypes args M (fun v _ => K v)

def plainOp : Op → Bool
  | .assign _ => true
  | .index .. => true
  | .indexAddr .. => true
  | .build .. => true
  | .makeInterface .. => true
  | .makeSlice .. => true
  | o => quiet o

/-- One operation of such a region (no store). -/
def stepD (E : Env) (o : Oper) (env : List (Tmp × SV)) (loc : List (Tmp × Sl)) (ch : List (Tmp × Bool)) (M : Mem) (K : SV → Prop) : Prop :=
  match o.op with
  | .call c => callD E c (evO E.glob env loc ch) M K
  | op => onB (plainOp op) (stepK E noCall o env loc ch M (fun v _ => K v))

def addFoot (j : Nat) (f : Option (Nat × List PStep)) (rd : List Foot) : List Foot :=
  match f with
  | some (b, p) => (j, b, p) :: rd
  | none => rd

abbrev Chg := Nat × Mem × Mem
/-- What is looked at out of turn is what it was ahead of such a call. -/
def sameR (ops : Array Oper) (i b : Nat) (p : List PStep) : List Chg → Prop → Prop
  | [], K => K
  | (r, M, M') :: l, K => match anc ops i r || anc ops r i with
    | true => sameR ops i b p l K
    | false => match memG M b p, memG M' b p with
      | some x, some y => x = y ∧ sameR ops i b p l K
      | _, _ => False
def sameC (ops : Array Oper) (cl : List Chg) : List Foot → Prop → Prop
  | [], K => K
  | (i, b, p) :: l, K => sameR ops i b p cl (sameC ops cl l K)

def regDK (E : Env) (call : CallT) (nt : Nat) (ops : Array Oper) : List Oper → Nat → List (Tmp × Sl) → List (Tmp × SV) → Mem → List Foot → List Foot → List Chg → (List (Tmp × Sl) → Mem → Prop) → Prop
  | [], _, loc, _, M, rd, wr, cl, K => onB (disjAll ops rd wr) (sameC ops cl rd (K loc M))
  | o :: rest, j, loc, env, M, rd, wr, cl, K =>
    match isStore o.op with
    | true => (match o.op, o.guard, o.dst with
      | .store T x y, none, none => (match evO E.glob env loc [] x, evO E.glob env loc [] y with
        | some (.ptr b p), some v => storeK E.P T (.ptr b p) v M (fun M' => regDK E call nt ops rest (j + 1) loc env M' rd ((j, b, p) :: wr) cl K)
        | _, _ => False)
      | op, none, some d => (match bornV E op (evO E.glob env loc []) with
        | some v => putL nt loc (some d) (.v (.ptr M.length [])) (fun loc' => regDK E call nt ops rest (j + 1) loc' env (M ++ [v]) rd ((j, M.length, []) :: wr) cl K)
        | none => False)
      | _, _, _ => False)
    | false => match isImp E o.op with
     | true => (match o.guard with
      | none => onB E.det (stepK E call o env loc [] M (fun v M' => putL nt loc o.dst (.v v) (fun loc' => regDK E call nt ops rest (j + 1) loc' env M' rd wr ((j, M, M') :: cl) K)))
      | some _ => False)
     | false => match o.guard with
      | none => stepD E o env loc [] M (fun v => putL nt loc o.dst (.v v) (fun loc' => regDK E call nt ops rest (j + 1) loc' env M (addFoot j (foot o.op (evO E.glob env loc [])) rd) wr cl K))
      | some (g, w) => match (ops[g]?).bind (·.dst) with
        | none => False
        | some s => match fresh loc s with
          | true => False
          | false => match quietAt o.op (evO E.glob env loc ((s, w) :: chain loc 8 s)) with
            | true => stepD E o env loc ((s, w) :: chain loc 8 s) M (fun v => putL nt loc o.dst (.opt s w v) (fun loc' => regDK E call nt ops rest (j + 1) loc' env M (addFoot j (foot o.op (evO E.glob env loc ((s, w) :: chain loc 8 s))) rd) wr cl K))
            | false => match guardB env loc ((s, w) :: chain loc 8 s) with
              | none => False
              | some true => stepD E o env loc ((s, w) :: chain loc 8 s) M (fun v => putL nt loc o.dst (.opt s w v) (fun loc' => regDK E call nt ops rest (j + 1) loc' env M (addFoot j (foot o.op (evO E.glob env loc ((s, w) :: chain loc 8 s))) rd) wr cl K))
              | some false => putL nt loc o.dst (.opt s w (dflt E o.type)) (fun loc' => regDK E call nt ops rest (j + 1) loc' env M rd wr cl K)

def firstId : Code → Nat
  | .region id _ _ => id
  | .seq a _ => firstId a
  | .block _ a => firstId a
  | .scope a => firstId a
  | .loop a => firstId a
  | _ => 0

def execC (E : Env) (call : CallT) (fid : FuncId) (nt : Nat) : Code → St → Kont → Prop
  | .skip, st, K => K .normal st
  | .region _ ops draw, st, K => match draw with
    | true => onB (drOK E ops) (regDK E call nt ops ops.toList 0 [] st.env st.mem [] [] [] (fun loc M => onB (noOpt loc st.env) (K .normal ⟨flush loc st.env, M⟩)))
    | false => regK E call nt ops ops.toList [] st.env st.mem (fun loc M => onB (noOpt loc st.env) (K .normal ⟨flush loc st.env, M⟩))
  | .seq a b, st, K => execC E call fid nt a st (fun e st' => match e with
    | .normal => execC E call fid nt b st' K
    | e => K e st')
  | .cond c a b, st, K => match evO E.glob st.env [] [] c with
    | some (.b true) => execC E call fid nt a st K
    | some (.b false) => execC E call fid nt b st K
    | _ => False
  | .block id c, st, K => execC E call fid nt c st (fun e st' => match e with
    | .exit j => (match Nat.beq j id with
      | true => K .normal st'
      | false => K (.exit j) st')
    | e => K e st')
  | .loop c, st, K => match E.loop fid (firstId c) with
    | none => rounds (execC E call fid nt c) K 40 st
    | some l => (match normSt l.keep st.mem.length st with
      | some s => l.pt s K
      | none => False)
  | .exit id, st, K => K (.exit id) st
  | .label _, st, K => K .normal st
  | .ret, st, K => K .ret st
  | _, _, _ => False

def initE : List SV → Nat → List (Tmp × SV)
  | [], _ => []
  | v :: l, n => (n, v) :: initE l (n + 1)

def resV (P : Program) (env : List (Tmp × SV)) (M : Mem) : List ResultVar → (List SV → Prop) → Prop
  | [], K => K []
  | .tmp t :: l, K => match lookE env t with
    | some v => onB (!v.isTup) (resV P env M l (fun vs => K (v :: vs)))
    | none => False
  | .cell a T :: l, K => match lookE env a with
    | some (.ptr b p) => loadK P T (.ptr b p) M (fun v => resV P env M l (fun vs => K (v :: vs)))
    | _ => False

def retK (P : Program) (rs : List ResultVar) (st : St) (K : SV → Mem → Prop) : Prop :=
  resV P st.env st.mem rs (fun vs => match vs with
    | [v] => K v st.mem
    | vs => K (.tup (SVs.ofList vs)) st.mem)

/-- A function's body, run on arguments. -/
def bodyK (E : Env) (call : CallT) (f : FuncId) (fn : Func) (args : List SV) (M : Mem) (K : SV → Mem → Prop) : Prop :=
  match fn.body with
  | none => False
  | some c => onB (Nat.ble args.length fn.ntmps) (execC E call f fn.ntmps c ⟨initE args 0, M⟩ (fun e st => match e with
    | .normal => retK E.P fn.results.toList st K
    | .ret => retK E.P fn.results.toList st K
    | _ => False))

def conK (c : Con) (args : List SV) (M : Mem) (K : SV → Mem → Prop) : Prop :=
  match c with
  | .pure pre f => match f args with
    | some r => onB (clAll 0 args) (pre args ∧ K r M)
    | none => False
  | .mth pt => match args with
    | .ptr b [] :: l => match getM M b with
      | some t => onB (t.cl 0 && clAll 0 l) (pt t l (fun r t' => K r (setM M b t')))
      | none => False
    | _ => False

def callN (E : Env) : Nat → CallT
  | 0, _, _, _, _ => False
  | n + 1, f, args, M, K => match E.gam f with
    | some c => conK c args M K
    | none => match E.P.funcs[f]? with
      | none => False
      | some fn => bodyK E (callN E n) f fn args M K

end Go.Sx

namespace Go.Sx
open Go.RowKit (Below)
set_option linter.unusedVariables false
set_option linter.unusedSimpArgs false

theorem kindEq_eq {a b : IntKind} (h : kindEq a b = true) : a = b := by
  cases a <;> cases b <;> first | rfl | (simp [kindEq] at h)

/-! ### Shapes -/
mutual
inductive Shp : Type where
  | sc
  | nd (l : Shps)
  | ar (k : IntKind) (n : Nat)
inductive Shps : Type where
  | nil
  | cons (a : Shp) (l : Shps)
end
mutual
def Shp.size : Shp → Nat
  | .nd l => l.size
  | .ar _ n => n
  | .sc => 1
def Shps.size : Shps → Nat
  | .nil => 0
  | .cons a l => a.size + l.size
end
mutual
def SV.shp : SV → Shp
  | .agg fs => .nd fs.shp
  | .arr k n _ => .ar k n
  | _ => .sc
def SVs.shp : SVs → Shps
  | .nil => .nil
  | .cons a l => .cons a.shp l.shp
end
def Shps.off : Shps → Nat → Option (Nat × Shp)
  | .nil, _ => none
  | .cons a _, 0 => some (0, a)
  | .cons a l, k + 1 => match l.off k with
    | some (o, t) => some (a.size + o, t)
    | none => none
def Shp.at : Shp → List PStep → Option (Nat × Shp)
  | s, [] => some (0, s)
  | .nd l, .f k :: p => match l.off k with
    | some (o, s) => match Shp.at s p with
      | some (o', s') => some (o + o', s')
      | none => none
    | none => none
  | .ar _ n, [.x ix] => if 0 ≤ ix ∧ ix < n then some (ix.toNat, .sc) else none
  | _, _ => none

mutual
theorem size_shp : ∀ t : SV, t.shp.size = t.size
  | .agg fs => by simp only [SV.shp, Shp.size, SV.size]; exact sizes_shp fs
  | .arr .. => rfl
  | .b _ | .i .. | .ptr .. | .cptr _ | .nilp | .fn _ | .ifc .. | .nili | .nilf | .sl .. | .roi .. | .ros .. | .sln _ | .nils | .tup _ => rfl
theorem sizes_shp : ∀ l : SVs, l.shp.size = l.size
  | .nil => rfl
  | .cons a l => by simp only [SVs.shp, Shps.size, SVs.size]; rw [size_shp a, sizes_shp l]
end

mutual
theorem same_shp : ∀ a b : SV, a.same b = true → a.shp = b.shp
  | .agg u, b, h => by
    cases b <;> simp [SV.same] at h
    simp only [SV.shp]; rw [sames_shp _ _ h]
  | .arr k n _, b, h => by
    cases b <;> simp [SV.same] at h
    obtain ⟨h1, h2⟩ := h
    simp only [SV.shp]; rw [kindEq_eq h1, h2]
  | .b _, b, h | .i .., b, h | .ptr .., b, h | .cptr _, b, h | .nilp, b, h | .fn _, b, h | .ifc .., b, h | .nili, b, h | .nilf, b, h | .sl .., b, h | .roi .., b, h | .ros .., b, h | .sln _, b, h | .nils, b, h => by
    cases b <;> first | rfl | (simp [SV.same] at h)
  | .tup _, b, h => by simp [SV.same] at h
theorem sames_shp : ∀ a b : SVs, a.same b = true → a.shp = b.shp
  | .nil, .nil, _ => rfl
  | .nil, .cons .., h => by simp [SVs.same] at h
  | .cons .., .nil, h => by simp [SVs.same] at h
  | .cons u l, .cons v m, h => by
    simp [SVs.same] at h
    simp only [SVs.shp]; rw [same_shp u v h.1, sames_shp l m h.2]
end

/-! ### What a value says -/
structure Sig where
  W : World
  F : World
  g : Option Nat
  ρ : Nat → Nat
  sh : List Shp

def Old (S : Sig) (a : Addr) (ds : List Value) : Prop :=
  a.block < S.W.heap.size ∧ ∀ (j : Nat) v, ds[j]? = some v → S.W.cell? (a.add j) = some v

mutual
def Rf (S : Sig) : SV → List Value → Prop
  | .b x, cs => cs = [.bool x]
  | .i k n, cs => cs = [.int k n]
  | .ptr blk p, cs => ∃ s o s', S.sh[blk]? = some s ∧ s.at p = some (o, s') ∧ cs = [.pointer (some ⟨S.ρ blk, o, none⟩)]
  | .cptr t, cs => ∃ a ds, t.cl 0 = true ∧ Rf S t ds ∧ Old S a ds ∧ cs = [.pointer (some a)]
  | .nilp, cs => cs = [.pointer none]
  | .fn f, cs => cs = [.func (.func f) #[] #[]]
  | .ifc t v, cs => ∃ x, Rf S v [x] ∧ v.isA = false ∧ cs = [.iface t x]
  | .nili, cs => cs = [.nilIface]
  | .nilf, cs => cs = [.nilFunc]
  | .agg fs, cs => Rfs S fs cs
  | .arr k n xs, cs => xs.length = n ∧ cs = xs.map (.int k)
  | .sl blk p off len cap, cs => ∃ s o k n a, S.sh[blk]? = some s ∧ s.at p = some (o, .ar k n) ∧ off + cap ≤ n ∧ len ≤ cap ∧
      cs = [.slice (some a) len cap] ∧ a.block = S.ρ blk ∧ a.spot = none ∧ (0 < cap → a.off = o + off)
  | .roi k xs, cs => ∃ a cap, xs.length ≤ cap ∧ cs = [.slice a xs.length cap] ∧ (a = none → xs = []) ∧ ∀ a', a = some a' → xs = [] ∨ Old S a' (xs.map (.int k))
  | .ros n g, cs => ∃ a cap, n ≤ cap ∧ cs = [.slice a n cap] ∧ (a = none → n = 0) ∧
      ∀ j, j < n → (g j).cl 0 = true ∧ ∃ ds, Rf S (g j) ds ∧ ∀ a', a = some a' → Old S (a'.add (j * (g j).size)) ds
  | .sln n, cs => ∃ a cap, 0 ≤ n ∧ cs = [.slice a n.toNat cap]
  | .nils, cs => cs = [.slice none 0 0]
  | .tup _, _ => False
def Rfs (S : Sig) : SVs → List Value → Prop
  | .nil, cs => cs = []
  | .cons a l, cs => ∃ c1 c2, cs = c1 ++ c2 ∧ Rf S a c1 ∧ Rfs S l c2
end

mutual
theorem Rf_len {S : Sig} : ∀ (t : SV) (cs : List Value), Rf S t cs → cs.length = t.size
  | .agg fs, cs, h => by simp only [Rf] at h; simp only [SV.size]; exact Rfs_len fs cs h
  | .arr k n xs, cs, h => by simp only [Rf] at h; obtain ⟨h1, rfl⟩ := h; simp [SV.size, h1]
  | .b _, cs, h | .i .., cs, h | .nilp, cs, h | .fn _, cs, h | .nili, cs, h | .nilf, cs, h | .nils, cs, h => by
    simp only [Rf] at h; subst h; rfl
  | .ptr .., cs, h => by simp only [Rf] at h; obtain ⟨_, _, _, _, _, rfl⟩ := h; rfl
  | .cptr _, cs, h => by simp only [Rf] at h; obtain ⟨_, _, _, _, _, rfl⟩ := h; rfl
  | .ifc .., cs, h => by simp only [Rf] at h; obtain ⟨_, _, _, rfl⟩ := h; rfl
  | .sl .., cs, h => by simp only [Rf] at h; obtain ⟨_, _, _, _, _, _, _, _, _, rfl, _⟩ := h; rfl
  | .roi .., cs, h => by simp only [Rf] at h; obtain ⟨_, _, _, rfl, _⟩ := h; rfl
  | .ros .., cs, h => by simp only [Rf] at h; obtain ⟨_, _, _, rfl, _⟩ := h; rfl
  | .sln _, cs, h => by simp only [Rf] at h; obtain ⟨_, _, _, rfl⟩ := h; rfl
  | .tup _, cs, h => by simp only [Rf] at h
theorem Rfs_len {S : Sig} : ∀ (t : SVs) (cs : List Value), Rfs S t cs → cs.length = t.size
  | .nil, cs, h => by simp only [Rfs] at h; subst h; rfl
  | .cons a l, cs, h => by
    simp only [Rfs] at h
    obtain ⟨c1, c2, rfl, h1, h2⟩ := h
    simp [SVs.size, Rf_len a c1 h1, Rfs_len l c2 h2]
end

/-- A value that is no struct and no array is one cell that no struct's value is. -/
theorem Rf_sc {S : Sig} {t : SV} {cs : List Value} (h : Rf S t cs) (hA : t.isA = false) : ∃ v, cs = [v] ∧ v.oneCell' = true ∧ v.cells = #[v] := by
  cases t <;> simp only [Rf] at h <;> simp [SV.isA] at hA
  all_goals first
    | exact h.elim
    | (subst h; exact ⟨_, rfl, rfl, rfl⟩)
    | (obtain ⟨_, _, _, _, _, rfl⟩ := h; exact ⟨_, rfl, rfl, rfl⟩)
    | (obtain ⟨_, _, _, _, rfl⟩ := h; exact ⟨_, rfl, rfl, rfl⟩)
    | (obtain ⟨_, _, _, rfl⟩ := h; exact ⟨_, rfl, rfl, rfl⟩)
    | (obtain ⟨_, _, _, _, _, _, _, _, _, rfl, _⟩ := h; exact ⟨_, rfl, rfl, rfl⟩)
    | (obtain ⟨_, _, _, rfl, _⟩ := h; exact ⟨_, rfl, rfl, rfl⟩)

mutual
theorem Rf_one {S : Sig} : ∀ (t : SV) (cs : List Value), Rf S t cs → ∀ v ∈ cs, v.oneCell' = true
  | .agg fs, cs, h => by simp only [Rf] at h; exact Rfs_one fs cs h
  | .arr k n xs, cs, h => by
    simp only [Rf] at h; obtain ⟨_, rfl⟩ := h
    intro v hv; obtain ⟨x, _, rfl⟩ := List.mem_map.1 hv; rfl
  | .b x, cs, h => one_sc h rfl
  | .i .., cs, h => one_sc h rfl
  | .nilp, cs, h => one_sc h rfl
  | .fn _, cs, h => one_sc h rfl
  | .nili, cs, h => one_sc h rfl
  | .nilf, cs, h => one_sc h rfl
  | .nils, cs, h => one_sc h rfl
  | .ptr .., cs, h => one_sc h rfl
  | .cptr _, cs, h => one_sc h rfl
  | .ifc .., cs, h => one_sc h rfl
  | .sl .., cs, h => one_sc h rfl
  | .roi .., cs, h => one_sc h rfl
  | .ros .., cs, h => one_sc h rfl
  | .sln _, cs, h => one_sc h rfl
  | .tup _, cs, h => by simp only [Rf] at h
theorem Rfs_one {S : Sig} : ∀ (t : SVs) (cs : List Value), Rfs S t cs → ∀ v ∈ cs, v.oneCell' = true
  | .nil, cs, h => by simp only [Rfs] at h; subst h; simp
  | .cons a l, cs, h => by
    simp only [Rfs] at h
    obtain ⟨c1, c2, rfl, h1, h2⟩ := h
    intro v hv
    rcases List.mem_append.1 hv with hv | hv
    · exact Rf_one a c1 h1 v hv
    · exact Rfs_one l c2 h2 v hv
theorem one_sc {S : Sig} {t : SV} {cs : List Value} (h : Rf S t cs) (hA : t.isA = false) : ∀ v ∈ cs, v.oneCell' = true := by
  obtain ⟨v, rfl, h1, _⟩ := Rf_sc h hA
  intro u hu; simp at hu; subst hu; exact h1
end

end Go.Sx

namespace Go.Sx
open Go.RowKit (Below)
set_option linter.unusedVariables false
set_option linter.unusedSimpArgs false

mutual
theorem cl_mono {m n : Nat} (h : m ≤ n) : ∀ t : SV, t.cl m = true → t.cl n = true
  | .ptr .., hc => by simp [SV.cl] at hc ⊢; omega
  | .sl .., hc => by simp [SV.cl] at hc ⊢; omega
  | .ifc _ v, hc => by simp only [SV.cl] at hc ⊢; exact cl_mono h v hc
  | .agg fs, hc => by simp only [SV.cl] at hc ⊢; exact cls_mono h fs hc
  | .tup fs, hc => by simp only [SV.cl] at hc ⊢; exact cls_mono h fs hc
  | .b _, _ | .i .., _ | .cptr _, _ | .nilp, _ | .fn _, _ | .nili, _ | .nilf, _ | .arr .., _ | .roi .., _ | .ros .., _ | .sln _, _ | .nils, _ => by simp [SV.cl]
theorem cls_mono {m n : Nat} (h : m ≤ n) : ∀ t : SVs, t.cl m = true → t.cl n = true
  | .nil, _ => rfl
  | .cons a l, hc => by
    simp [SVs.cl] at hc ⊢
    exact ⟨cl_mono h a hc.1, cls_mono h l hc.2⟩
end

structure Tr (n : Nat) (S S' : Sig) : Prop where
  old : ∀ a ds, Old S a ds → Old S' a ds
  sh : ∀ j, j < n → ∀ s, S.sh[j]? = some s → S'.sh[j]? = some s ∧ S'.ρ j = S.ρ j

mutual
theorem Rf_tr {n : Nat} {S S' : Sig} (h : Tr n S S') : ∀ (t : SV) (cs : List Value), t.cl n = true → Rf S t cs → Rf S' t cs
  | .agg fs, cs, hc, hr => by simp only [Rf] at hr ⊢; simp only [SV.cl] at hc; exact Rfs_tr h fs cs hc hr
  | .arr .., cs, hc, hr => by simp only [Rf] at hr ⊢; exact hr
  | .b _, cs, hc, hr | .i .., cs, hc, hr | .nilp, cs, hc, hr | .fn _, cs, hc, hr | .nili, cs, hc, hr | .nilf, cs, hc, hr | .nils, cs, hc, hr => by
    simp only [Rf] at hr ⊢; exact hr
  | .ptr b p, cs, hc, hr => by
    simp only [Rf] at hr ⊢; simp [SV.cl] at hc
    obtain ⟨s, o, s', h1, h2, rfl⟩ := hr
    obtain ⟨k1, k2⟩ := h.sh b hc s h1
    exact ⟨s, o, s', k1, h2, by rw [k2]⟩
  | .cptr t, cs, hc, hr => by
    simp only [Rf] at hr ⊢
    obtain ⟨a, ds, h0, h1, h2, rfl⟩ := hr
    exact ⟨a, ds, h0, Rf_tr h t ds (cl_mono (Nat.zero_le _) t h0) h1, h.old _ _ h2, rfl⟩
  | .ifc t v, cs, hc, hr => by
    simp only [Rf] at hr ⊢; simp only [SV.cl] at hc
    obtain ⟨x, h1, h2, rfl⟩ := hr
    exact ⟨x, Rf_tr h v _ hc h1, h2, rfl⟩
  | .sl b p off len cap, cs, hc, hr => by
    simp only [Rf] at hr ⊢; simp [SV.cl] at hc
    obtain ⟨s, o, k, m, a, h1, h2, h3, h4, rfl, h5, h6, h7⟩ := hr
    obtain ⟨k1, k2⟩ := h.sh b hc s h1
    exact ⟨s, o, k, m, a, k1, h2, h3, h4, rfl, by rw [k2]; exact h5, h6, h7⟩
  | .roi k xs, cs, hc, hr => by
    simp only [Rf] at hr ⊢
    obtain ⟨a, cap, h1, rfl, h2, h3⟩ := hr
    exact ⟨a, cap, h1, rfl, h2, fun a' e => (h3 a' e).imp id (h.old _ _)⟩
  | .sln n, cs, hc, hr => by simp only [Rf] at hr ⊢; exact hr
  | .ros m g, cs, hc, hr => by
    simp only [Rf] at hr ⊢
    obtain ⟨a, cap, h1, rfl, h2, h3⟩ := hr
    refine ⟨a, cap, h1, rfl, h2, fun j hj => ?_⟩
    obtain ⟨k0, ds, k1, k2⟩ := h3 j hj
    exact ⟨k0, ds, Rf_tr h (g j) ds (cl_mono (Nat.zero_le _) _ k0) k1, fun a' e => h.old _ _ (k2 a' e)⟩
  | .tup _, cs, hc, hr => by simp only [Rf] at hr
theorem Rfs_tr {n : Nat} {S S' : Sig} (h : Tr n S S') : ∀ (t : SVs) (cs : List Value), t.cl n = true → Rfs S t cs → Rfs S' t cs
  | .nil, cs, hc, hr => by simp only [Rfs] at hr ⊢; exact hr
  | .cons a l, cs, hc, hr => by
    simp only [Rfs] at hr ⊢; simp [SVs.cl] at hc
    obtain ⟨c1, c2, rfl, h1, h2⟩ := hr
    exact ⟨c1, c2, rfl, Rf_tr h a c1 hc.1 h1, Rfs_tr h l c2 hc.2 h2⟩
end

/-! A value names own blocks alone that there are. -/
mutual
theorem Rf_cl {S : Sig} : ∀ (t : SV) (cs : List Value), Rf S t cs → t.cl S.sh.length = true
  | .agg fs, cs, hr => by simp only [Rf] at hr; simp only [SV.cl]; exact Rfs_cl fs cs hr
  | .ptr b p, cs, hr => by
    simp only [Rf] at hr
    obtain ⟨s, o, s', h1, _⟩ := hr
    simp [SV.cl]
    rcases Nat.lt_or_ge b S.sh.length with h | h
    · exact h
    · simp [List.getElem?_eq_none h] at h1
  | .sl b p off len cap, cs, hr => by
    simp only [Rf] at hr
    obtain ⟨s, o, k, m, a, h1, _⟩ := hr
    simp [SV.cl]
    rcases Nat.lt_or_ge b S.sh.length with h | h
    · exact h
    · simp [List.getElem?_eq_none h] at h1
  | .ifc t v, cs, hr => by
    simp only [Rf] at hr
    obtain ⟨x, h1, _⟩ := hr
    simp only [SV.cl]; exact Rf_cl v _ h1
  | .tup _, cs, hr => by simp only [Rf] at hr
  | .b _, _, _ | .i .., _, _ | .cptr _, _, _ | .nilp, _, _ | .fn _, _, _ | .nili, _, _ | .nilf, _, _ | .arr .., _, _ | .roi .., _, _ | .ros .., _, _ | .sln _, _, _ | .nils, _, _ => by simp [SV.cl]
theorem Rfs_cl {S : Sig} : ∀ (t : SVs) (cs : List Value), Rfs S t cs → t.cl S.sh.length = true
  | .nil, _, _ => rfl
  | .cons a l, cs, hr => by
    simp only [Rfs] at hr
    obtain ⟨c1, c2, rfl, h1, h2⟩ := hr
    simp [SVs.cl, Rf_cl a c1 h1, Rfs_cl l c2 h2]
end

/-- Nothing is lost that a world before knew. -/
structure Ext (S S' : Sig) : Prop where
  W : S'.W = S.W
  F : S'.F = S.F
  g : S'.g = S.g
  sh : ∀ j s, S.sh[j]? = some s → S'.sh[j]? = some s ∧ S'.ρ j = S.ρ j

theorem Ext.refl (S : Sig) : Ext S S := ⟨rfl, rfl, rfl, fun _ _ h => ⟨h, rfl⟩⟩
theorem Ext.trans {a b c : Sig} (h : Ext a b) (k : Ext b c) : Ext a c :=
  ⟨k.W.trans h.W, k.F.trans h.F, k.g.trans h.g, fun j s e => let ⟨e1, r1⟩ := h.sh j s e; let ⟨e2, r2⟩ := k.sh j s e1; ⟨e2, r2.trans r1⟩⟩
theorem Ext.old {S S' : Sig} (h : Ext S S') {a : Addr} {ds : List Value} (ho : Old S a ds) : Old S' a ds := by
  unfold Old at *; rw [h.W]; exact ho
theorem Ext.tr {S S' : Sig} (h : Ext S S') (n : Nat) : Tr n S S' := ⟨fun _ _ => h.old, fun j _ s e => h.sh j s e⟩
theorem Rf_ext {S S' : Sig} (h : Ext S S') {t : SV} {cs : List Value} (hr : Rf S t cs) : Rf S' t cs :=
  Rf_tr (h.tr _) t cs (Rf_cl t cs hr) hr

/-! ### Values as the frame holds them -/
def R1 (S : Sig) (t : SV) (v : Value) : Prop :=
  match t.isA with
  | true => ∃ cs : Array Value, v = .agg cs ∧ Rf S t cs.toList
  | false => Rf S t [v]
def Rt (S : Sig) : SVs → List Value → Prop
  | .nil, l => l = []
  | .cons a r, l => ∃ x l', l = x :: l' ∧ R1 S a x ∧ Rt S r l'
def R (S : Sig) (t : SV) (v : Value) : Prop :=
  match t with
  | .tup vs => ∃ l : Array Value, v = .tuple l ∧ Rt S vs l.toList
  | t => R1 S t v

theorem R_of_R1 {S : Sig} {t : SV} {v : Value} (h : R1 S t v) : R S t v := by
  cases t <;> first | exact h | (simp [R1, SV.isA, Rf] at h)
theorem R1_of_R {S : Sig} {t : SV} {v : Value} (h : R S t v) (ht : t.isTup = false) : R1 S t v := by
  cases t <;> first | exact h | (simp [SV.isTup] at ht)

theorem R1_cells {S : Sig} {t : SV} {v : Value} (h : R1 S t v) : Rf S t v.cells.toList := by
  unfold R1 at h
  cases hA : t.isA <;> simp only [hA] at h
  · obtain ⟨u, hu, _, hc⟩ := Rf_sc h hA
    simp at hu; subst hu; rw [hc]; exact h
  · obtain ⟨cs, rfl, h⟩ := h; exact h
theorem R1_agg {S : Sig} {t : SV} {cs : List Value} (h : Rf S t cs) (hA : t.isA = true) : R1 S t (.agg cs.toArray) := by
  unfold R1; simp only [hA]; exact ⟨_, rfl, by simpa using h⟩
theorem R1_sc {S : Sig} {t : SV} {v : Value} (h : Rf S t [v]) (hA : t.isA = false) : R1 S t v := by
  unfold R1; simp only [hA]; exact h
theorem R1_sc' {S : Sig} {t : SV} {v : Value} (h : R1 S t v) (hA : t.isA = false) : Rf S t [v] := by
  unfold R1 at h; simp only [hA] at h; exact h
theorem R1_tr {n : Nat} {S S' : Sig} (h : Tr n S S') {t : SV} {v : Value} (hc : t.cl n = true) (hr : R1 S t v) : R1 S' t v := by
  unfold R1 at *
  cases hA : t.isA <;> simp only [hA] at hr ⊢
  · exact Rf_tr h _ _ hc hr
  · obtain ⟨cs, e, hr⟩ := hr; exact ⟨cs, e, Rf_tr h _ _ hc hr⟩
theorem Rt_tr {n : Nat} {S S' : Sig} (h : Tr n S S') : ∀ {t : SVs} {l : List Value}, t.cl n = true → Rt S t l → Rt S' t l
  | .nil, l, hc, hr => hr
  | .cons a r, l, hc, hr => by
    simp [SVs.cl] at hc
    obtain ⟨x, l', e, h1, h2⟩ := hr
    exact ⟨x, l', e, R1_tr h hc.1 h1, Rt_tr h hc.2 h2⟩
theorem R_tr {n : Nat} {S S' : Sig} (h : Tr n S S') {t : SV} {v : Value} (hc : t.cl n = true) (hr : R S t v) : R S' t v := by
  cases t <;> first | exact R1_tr h hc hr | (obtain ⟨l, e, hr⟩ := hr; exact ⟨l, e, Rt_tr h (by simpa [SV.cl] using hc) hr⟩)
theorem R1_cl {S : Sig} {t : SV} {v : Value} (hr : R1 S t v) : t.cl S.sh.length = true := Rf_cl _ _ (R1_cells hr)
theorem Rt_cl {S : Sig} : ∀ {t : SVs} {l : List Value}, Rt S t l → t.cl S.sh.length = true
  | .nil, l, hr => rfl
  | .cons a r, l, hr => by
    obtain ⟨x, l', e, h1, h2⟩ := hr
    simp [SVs.cl, R1_cl h1, Rt_cl h2]
theorem R_cl {S : Sig} {t : SV} {v : Value} (hr : R S t v) : t.cl S.sh.length = true := by
  cases t <;> first | exact R1_cl hr | (obtain ⟨l, e, hr⟩ := hr; simpa [SV.cl] using Rt_cl hr)
theorem R_ext {S S' : Sig} (h : Ext S S') {t : SV} {v : Value} (hr : R S t v) : R S' t v := R_tr (h.tr _) (R_cl hr) hr

/-! ### Parts of values -/
theorem get_off {S : Sig} : ∀ (fs : SVs) (k : Nat) (a : SV) (o : Nat) (s : Shp), fs.get k = some a → fs.shp.off k = some (o, s) →
    ∀ cs, Rfs S fs cs → s = a.shp ∧ o + a.size ≤ cs.length ∧ Rf S a ((cs.drop o).take a.size)
  | .nil, k, a, o, s, h, _, cs, hr => by simp [SVs.get] at h
  | .cons u l, 0, a, o, s, h, h2, cs, hr => by
    simp [SVs.get] at h; subst h
    simp [SVs.shp, Shps.off] at h2; obtain ⟨rfl, rfl⟩ := h2
    simp only [Rfs] at hr
    obtain ⟨c1, c2, rfl, h1, h2⟩ := hr
    have hl := Rf_len u c1 h1
    refine ⟨rfl, by simp [hl], ?_⟩
    rw [← hl]; simpa using h1
  | .cons u l, k + 1, a, o, s, h, h2, cs, hr => by
    simp only [SVs.get] at h
    simp only [SVs.shp, Shps.off] at h2
    cases ho : l.shp.off k with
    | none => simp [ho] at h2
    | some q =>
      obtain ⟨o1, s1⟩ := q
      simp [ho] at h2; obtain ⟨rfl, rfl⟩ := h2
      simp only [Rfs] at hr
      obtain ⟨c1, c2, rfl, h1, h2⟩ := hr
      obtain ⟨e, hb, hrf⟩ := get_off l k a o1 s1 h ho c2 h2
      have hl := Rf_len u c1 h1
      rw [size_shp, ← hl]
      refine ⟨e, by simp; omega, ?_⟩
      rw [List.drop_append, List.drop_eq_nil_of_le (by omega)]
      simpa using hrf

theorem pre_off : ∀ (fs : SVs) (k : Nat) (o : Nat) (a : SV), fs.pre k = some (o, a) → fs.get k = some a ∧ fs.shp.off k = some (o, a.shp)
  | .nil, k, o, a, h => by simp [SVs.pre] at h
  | .cons u l, 0, o, a, h => by simp [SVs.pre] at h; obtain ⟨rfl, rfl⟩ := h; exact ⟨rfl, rfl⟩
  | .cons u l, k + 1, o, a, h => by
    simp only [SVs.pre] at h
    cases ho : l.pre k with
    | none => simp [ho] at h
    | some q =>
      obtain ⟨o1, a1⟩ := q
      simp [ho] at h; obtain ⟨rfl, rfl⟩ := h
      obtain ⟨h1, h2⟩ := pre_off l k o1 a1 ho
      exact ⟨h1, by simp [SVs.shp, Shps.off, h2, size_shp]⟩

theorem get_at {S : Sig} : ∀ (p : List PStep) (t v : SV) (o : Nat) (s : Shp), SV.get t p = some v → t.shp.at p = some (o, s) →
    ∀ cs, Rf S t cs → s = v.shp ∧ o + v.size ≤ cs.length ∧ Rf S v ((cs.drop o).take v.size)
  | [], t, v, o, s, h, h2, cs, hr => by
    simp [SV.get] at h; subst h
    simp [Shp.at] at h2; obtain ⟨rfl, rfl⟩ := h2
    have hl := Rf_len t cs hr
    exact ⟨rfl, by omega, by rw [← hl]; simpa using hr⟩
  | .f k :: p, t, v, o, s, h, h2, cs, hr => by
    cases t with
    | agg fs =>
      simp only [SV.get] at h
      cases hg : fs.get k with
      | none => simp [hg] at h
      | some a =>
        simp only [hg] at h
        simp only [SV.shp, Shp.at] at h2
        cases ho : fs.shp.off k with
        | none => simp [ho] at h2
        | some q =>
          obtain ⟨o1, s1⟩ := q
          simp only [ho] at h2
          cases ha : s1.at p with
          | none => simp [ha] at h2
          | some q2 =>
            obtain ⟨o2, s2⟩ := q2
            simp [ha] at h2; obtain ⟨rfl, rfl⟩ := h2
            simp only [Rf] at hr
            obtain ⟨e, hb, hra⟩ := get_off fs k a o1 s1 hg ho cs hr
            subst e
            obtain ⟨e2, hb2, hrv⟩ := get_at p a v o2 s2 h ha _ hra
            have hla := Rf_len _ _ hra
            refine ⟨e2, by omega, ?_⟩
            have : ((List.drop o2 (List.take a.size (List.drop o1 cs))).take v.size) = (cs.drop (o1 + o2)).take v.size := by
              rw [List.drop_take, List.drop_drop, List.take_take]
              congr 1; omega
            rw [← this]; exact hrv
    | _ => simp [SV.get] at h
  | .x ix :: p, t, v, o, s, h, h2, cs, hr => by
    cases t with
    | arr k n xs =>
      cases p with
      | nil =>
        simp [SV.get] at h; subst h
        simp only [SV.shp, Shp.at] at h2
        split at h2
        · rename_i hb
          simp at h2; obtain ⟨rfl, rfl⟩ := h2
          simp only [Rf] at hr; obtain ⟨hl, rfl⟩ := hr
          have hlt : ix.toNat < xs.length := by omega
          refine ⟨rfl, by simp [SV.size]; omega, ?_⟩
          simp only [SV.size, Rf]
          rw [List.drop_eq_getElem_cons (by simpa using hlt)]
          simp [List.getD_eq_getElem?_getD, List.getElem?_eq_getElem hlt]
        · simp at h2
      | cons _ _ => simp [SV.get] at h
    | _ => simp [SV.get] at h

theorem set_shp : ∀ (fs : SVs) (k : Nat) (a v : SV), fs.get k = some a → v.shp = a.shp → (fs.set k v).shp = fs.shp
  | .nil, _, _, _, h, _ => by simp [SVs.get] at h
  | .cons u l, 0, a, v, h, e => by simp [SVs.get] at h; subst h; simp [SVs.set, SVs.shp, e]
  | .cons u l, k + 1, a, v, h, e => by
    simp only [SVs.get] at h
    simp [SVs.set, SVs.shp, set_shp l k a v h e]

theorem set_off {S : Sig} : ∀ (fs : SVs) (k : Nat) (a v : SV) (o : Nat) (s : Shp), fs.get k = some a → fs.shp.off k = some (o, s) → v.shp = a.shp →
    ∀ cs vs, Rfs S fs cs → Rf S v vs → Rfs S (fs.set k v) (cs.take o ++ vs ++ cs.drop (o + vs.length))
  | .nil, k, a, v, o, s, h, _, _, cs, vs, hr, hv => by simp [SVs.get] at h
  | .cons u l, 0, a, v, o, s, h, h2, e, cs, vs, hr, hv => by
    simp [SVs.get] at h; subst h
    simp [SVs.shp, Shps.off] at h2; obtain ⟨rfl, rfl⟩ := h2
    simp only [Rfs] at hr
    obtain ⟨c1, c2, rfl, h1, h2⟩ := hr
    have hl : c1.length = vs.length := by rw [Rf_len u c1 h1, Rf_len v vs hv, ← size_shp, ← size_shp, e]
    simp only [SVs.set, Rfs]
    refine ⟨vs, c2, ?_, hv, h2⟩
    simp [← hl]
  | .cons u l, k + 1, a, v, o, s, h, h2, e, cs, vs, hr, hv => by
    simp only [SVs.get] at h
    simp only [SVs.shp, Shps.off] at h2
    cases ho : l.shp.off k with
    | none => simp [ho] at h2
    | some q =>
      obtain ⟨o1, s1⟩ := q
      simp [ho] at h2; obtain ⟨rfl, rfl⟩ := h2
      simp only [Rfs] at hr
      obtain ⟨c1, c2, rfl, h1, h2⟩ := hr
      have hl := Rf_len u c1 h1
      have ih := set_off l k a v o1 s1 h ho e c2 vs h2 hv
      simp only [SVs.set, Rfs]
      refine ⟨c1, _, ?_, h1, ih⟩
      rw [size_shp, ← hl]
      simp [List.take_append, List.drop_append, Nat.add_assoc, List.take_of_length_le, List.drop_eq_nil_of_le]

theorem put_at {S : Sig} : ∀ (p : List PStep) (t v t' : SV) (o : Nat) (s : Shp), SV.put t p v = some t' → t.shp.at p = some (o, s) →
    ∀ cs vs, Rf S t cs → Rf S v vs → t'.shp = t.shp ∧ v.shp = s ∧ o + vs.length ≤ cs.length ∧ Rf S t' (cs.take o ++ vs ++ cs.drop (o + vs.length))
  | [], t, v, t', o, s, h, h2, cs, vs, hr, hv => by
    simp [Shp.at] at h2; obtain ⟨rfl, rfl⟩ := h2
    have hs : t.same v = true ∧ v = t' := by
      cases t <;> (simp only [SV.put] at h; split at h <;> simp_all)
    obtain ⟨hs, rfl⟩ := hs
    have e := same_shp _ _ hs
    have hl : cs.length = vs.length := by rw [Rf_len t cs hr, Rf_len v vs hv, ← size_shp, ← size_shp, e]
    refine ⟨e.symm, e.symm, by omega, ?_⟩
    simpa [← hl] using hv
  | .f k :: p, t, v, t', o, s, h, h2, cs, vs, hr, hv => by
    cases t with
    | agg fs =>
      simp only [SV.put] at h
      cases hg : fs.get k with
      | none => simp [hg] at h
      | some a =>
        simp only [hg] at h
        cases hp : SV.put a p v with
        | none => simp [hp] at h
        | some a' =>
          simp [hp] at h; subst h
          simp only [SV.shp, Shp.at] at h2
          cases ho : fs.shp.off k with
          | none => simp [ho] at h2
          | some q =>
            obtain ⟨o1, s1⟩ := q
            simp only [ho] at h2
            cases ha : s1.at p with
            | none => simp [ha] at h2
            | some q2 =>
              obtain ⟨o2, s2⟩ := q2
              simp [ha] at h2; obtain ⟨rfl, rfl⟩ := h2
              simp only [Rf] at hr
              obtain ⟨e, hb, hra⟩ := get_off fs k a o1 s1 hg ho cs hr
              subst e
              obtain ⟨e1, e2, hb2, hrv⟩ := put_at p a v a' o2 s2 hp ha _ vs hra hv
              have hla := Rf_len _ _ hra
              have := set_off fs k a a' o1 _ hg ho e1 cs _ hr hrv
              refine ⟨by simp only [SV.shp]; rw [set_shp fs k a a' hg e1], e2, by omega, ?_⟩
              simp only [Rf]
              have hlen : (List.take o2 (List.take a.size (List.drop o1 cs)) ++ vs ++ List.drop (o2 + vs.length) (List.take a.size (List.drop o1 cs))).length = a.size := by
                rw [Rf_len _ _ hrv, ← size_shp, e1, size_shp]
              rw [hlen] at this
              have eq : cs.take o1 ++ (List.take o2 (List.take a.size (List.drop o1 cs)) ++ vs ++ List.drop (o2 + vs.length) (List.take a.size (List.drop o1 cs))) ++ cs.drop (o1 + a.size) =
                  cs.take (o1 + o2) ++ vs ++ cs.drop (o1 + o2 + vs.length) := by
                rw [List.take_add, List.take_take, Nat.min_eq_left (by omega : o2 ≤ a.size)]
                have hd : List.drop (o2 + vs.length) (List.take a.size (List.drop o1 cs)) ++ List.drop (o1 + a.size) cs = List.drop (o1 + o2 + vs.length) cs := by
                  have h0 : List.drop (o1 + a.size) cs = List.drop a.size (List.drop o1 cs) := by rw [List.drop_drop]
                  rw [h0]
                  have h1 : List.drop (o1 + o2 + vs.length) cs = List.drop (o2 + vs.length) (List.drop o1 cs) := by rw [List.drop_drop]; congr 1; omega
                  rw [h1]
                  have h3 : (List.take a.size (List.drop o1 cs) ++ List.drop a.size (List.drop o1 cs)).drop (o2 + vs.length) = List.drop (o2 + vs.length) (List.take a.size (List.drop o1 cs)) ++ List.drop a.size (List.drop o1 cs) := by
                    rw [List.drop_append_of_le_length (by rw [hla]; omega)]
                  rw [← h3, List.take_append_drop]
                rw [← hd]; simp
              rw [eq] at this; exact this
    | _ => simp [SV.put] at h
  | .x ix :: p, t, v, t', o, s, h, h2, cs, vs, hr, hv => by
    cases t with
    | arr k n xs =>
      cases p with
      | nil =>
        cases v with
        | i k' m =>
          simp only [SV.put] at h
          split at h
          · rename_i hk
            simp at h; subst h
            have := kindEq_eq hk; subst this
            simp only [SV.shp, Shp.at] at h2
            split at h2
            · rename_i hb
              simp at h2; obtain ⟨rfl, rfl⟩ := h2
              simp only [Rf] at hr hv; obtain ⟨hl, rfl⟩ := hr; subst hv
              have hlt : ix.toNat < xs.length := by omega
              refine ⟨rfl, rfl, by simp; omega, ?_⟩
              simp only [Rf]
              refine ⟨by simpa using hl, ?_⟩
              rw [List.set_eq_take_append_cons_drop]
              simp [hlt]
            · simp at h2
          · simp at h
        | _ => simp [SV.put] at h
      | cons _ _ => simp [SV.put] at h
    | _ => simp [SV.put] at h

end Go.Sx

namespace Go.Sx
open Go.RowKit (Below)
set_option linter.unusedVariables false
set_option linter.unusedSimpArgs false

theorem nbeq0 {n : Nat} (h : Nat.beq n 0 = false) : n ≠ 0 := by rintro rfl; simp at h

theorem getM_eq : ∀ (M : Mem) (j : Nat), getM M j = M[j]?
  | [], j => by simp [getM]
  | a :: l, 0 => by simp [getM]
  | a :: l, j + 1 => by simp [getM, getM_eq l j]
theorem setM_eq : ∀ (M : Mem) (j : Nat) (v : SV), setM M j v = M.set j v
  | [], j, v => by simp [setM]
  | a :: l, 0, v => by simp [setM]
  | a :: l, j + 1, v => by simp [setM, setM_eq l j v]

/-- The world in which a function was entered knows all that the first one knew. -/
structure Base (S : Sig) : Prop where
  size : S.W.heap.size ≤ S.F.heap.size
  same : ∀ k, k < S.W.heap.size → S.F.heap[k]? = S.W.heap[k]?
  g : ∀ b, S.g = some b → S.W.heap.size ≤ b

structure Rep (S : Sig) (M : Mem) (w : World) : Prop where
  base : Base S
  sh : S.sh = M.map SV.shp
  size : S.F.heap.size ≤ w.heap.size
  kept : ∀ k, k < S.F.heap.size → S.g ≠ some k → w.heap[k]? = S.F.heap[k]?
  os : w.os = S.F.os
  tape : w.tape = S.F.tape
  out : w.output = S.F.output
  inj : ∀ i j, i < M.length → j < M.length → S.ρ i = S.ρ j → i = j
  new : ∀ i, i < M.length → S.g = some (S.ρ i) ∨ S.F.heap.size ≤ S.ρ i
  blk : ∀ i t, M[i]? = some t → ∃ cs el, w.heap[S.ρ i]? = some (.cells cs el (0, 0)) ∧ Rf S t cs.toList

theorem Addr.add_add (a : Addr) (i j : Nat) : (a.add i).add j = a.add (i + j) := by
  unfold Addr.add
  by_cases hi : i = 0
  · simp [hi]
  · by_cases hj : j = 0
    · simp [hi, hj]
    · simp [hi, hj, show ¬ (i + j = 0) by omega]; omega
theorem Addr.add_none (b o j : Nat) : (⟨b, o, none⟩ : Addr).add j = ⟨b, o + j, none⟩ := by
  unfold Addr.add; split <;> simp_all

section
variable {S : Sig} {M : Mem} {w : World}

theorem Rep.cell_old (h : Rep S M w) {a : Addr} {ds : List Value} (ho : Old S a ds) : ∀ (j : Nat) v, ds[j]? = some v → w.cell? (a.add j) = some v := by
  obtain ⟨h1, h3⟩ := ho
  intro j v hj
  have hb : (a.add j).block = a.block := by unfold Addr.add; split <;> rfl
  have := h3 j v hj
  unfold World.cell? at this ⊢
  rw [hb] at this ⊢
  have hs := h.base.size
  rw [h.kept _ (by omega) (fun e => by have := h.base.g _ e; omega), h.base.same _ h1]; exact this

theorem Rep.addr {b : Nat} {p : List PStep} {v : Value} (h : Rep S M w) (hr : R S (.ptr b p) v) {t u : SV} (hm : getM M b = some t) (hg : SV.get t p = some u) :
    ∃ o cs el, v = .pointer (some ⟨S.ρ b, o, none⟩) ∧ t.shp.at p = some (o, u.shp) ∧ w.heap[S.ρ b]? = some (.cells cs el (0, 0)) ∧ Rf S t cs.toList ∧
      o + u.size ≤ cs.size ∧ Rf S u ((cs.toList.drop o).take u.size) := by
  rw [getM_eq] at hm
  obtain ⟨cs, el, h1, h2⟩ := h.blk b t hm
  have hr' : Rf S (.ptr b p) [v] := hr
  simp only [Rf] at hr'
  obtain ⟨s, o, s', e1, e2, e3⟩ := hr'
  simp at e3; subst e3
  rw [h.sh] at e1
  simp [hm] at e1; subst e1
  obtain ⟨g1, g2, g3⟩ := get_at p t u o s' hg e2 _ h2
  subst g1
  exact ⟨o, cs, el, rfl, e2, h1, h2, by simpa using g2, g3⟩

theorem cell_row {g : Nat} {cs : Array Value} {el : TypeId} {fr : Nat × Nat} (h : w.heap[g]? = some (.cells cs el fr)) (j : Nat) : w.cell? ⟨g, j, none⟩ = cs[j]? := by
  simp [World.cell?, h]

theorem Rep.cells_at (h : Rep S M w) {g o : Nat} {cs : Array Value} {el : TypeId} {fr : Nat × Nat} (hg : w.heap[g]? = some (.cells cs el fr)) (n : Nat) :
    ∀ (j : Nat) v, ((cs.toList.drop o).take n)[j]? = some v → w.cell? ((⟨g, o, none⟩ : Addr).add j) = some v := by
  intro j v hj
  rw [Addr.add_none, cell_row hg]
  have : j < n := by
    rcases Nat.lt_or_ge j n with h | h
    · exact h
    · rw [List.getElem?_take, if_neg (by omega)] at hj; simp at hj
  rw [List.getElem?_take_of_lt this, List.getElem?_drop] at hj
  simpa using hj
end

theorem cells_info {P : Program} {T : TypeId} (h : P.cellsOf T ≠ 0) : ∃ i, P.info? T = some i ∧ i.size = P.cellsOf T := by
  unfold Program.cellsOf at *
  cases hi : P.info? T with
  | none => simp [hi] at h
  | some i => exact ⟨i, rfl, by simp⟩

theorem run_sizeOf' {P : Program} {T : TypeId} (h : P.cellsOf T ≠ 0) (w : World) : (sizeOf T).run P w = .ok (P.cellsOf T) w := by
  obtain ⟨i, hi, e⟩ := cells_info h
  simp [sizeOf, typeInfo, hi, e]

theorem run_isAgg {P : Program} {T : TypeId} {b : Bool} (h : aggT P T = some b) (w : World) : (isAgg T).run P w = .ok b w := by
  unfold aggT at h
  cases hu : P.underlying T with
  | none => simp [hu] at h
  | some d => cases d <;> simp [hu] at h <;> subst h <;> simp [isAgg, run_underlying hu]

/-- A variable at an address whose cells are known. -/
theorem run_loadVar_at {P : Program} {S : Sig} {w : World} {T : TypeId} {a : Addr} {t : SV} {ds : List Value} (hr : Rf S t ds) (hk : ldOK P T t = true)
    (hc : ∀ (j : Nat) v, ds[j]? = some v → w.cell? (a.add j) = some v) : ∃ v, (loadVar T a).run P w = .ok v w ∧ R1 S t v := by
  have hl := Rf_len t ds hr
  unfold ldOK at hk
  cases hA : aggT P T with
  | none => simp [hA] at hk
  | some b =>
    cases b with
    | false =>
      simp [hA] at hk
      obtain ⟨v, rfl, h1, h2⟩ := Rf_sc hr hk.1
      have := hc 0 v (by simp)
      have h0 : a.add 0 = a := by simp [Addr.add]
      rw [h0] at this
      exact ⟨v, by simp [loadVar, run_isAgg hA, this], R1_sc hr hk.1⟩
    | true =>
      simp [hA] at hk
      obtain ⟨k1, k2, k3⟩ := hk
      refine ⟨.agg ds.toArray, ?_, R1_agg hr k1⟩
      have hlc := run_loadCells_list (P := P) (w := w) a ds hc
      simp [loadVar, run_isAgg hA, run_sizeOf' (by rw [← k2]; exact nbeq0 k3 : P.cellsOf T ≠ 0), ← k2, ← hl, hlc]

theorem Rep.loadK {P : Program} {S : Sig} {M : Mem} {w : World} (h : Rep S M w) {T : TypeId} {p : SV} {pv : Value} (hp : R S p pv) {K : SV → Prop} (hk : loadK P T p M K) :
    ∃ t v a, K t ∧ pv = .pointer (some a) ∧ (loadVar T a).run P w = .ok v w ∧ R1 S t v := by
  cases p with
  | ptr b p =>
    simp only [Sx.loadK] at hk
    cases hm : getM M b with
    | none => simp [hm] at hk
    | some t =>
      simp only [hm] at hk
      cases hg : SV.get t p with
      | none => simp [hg] at hk
      | some u =>
        simp only [hg] at hk
        cases hl : ldOK P T u with
        | false => simp [hl, onB] at hk
        | true =>
          simp [hl, onB] at hk
          obtain ⟨o, cs, el, rfl, _, h1, h2, h3, h4⟩ := h.addr hp hm hg
          obtain ⟨v, hv, hr⟩ := run_loadVar_at (a := ⟨S.ρ b, o, none⟩) h4 hl (h.cells_at h1 _)
          exact ⟨u, v, _, hk, rfl, hv, hr⟩
  | cptr t =>
    simp only [Sx.loadK] at hk
    cases hl : ldOK P T t with
    | false => simp [hl, onB] at hk
    | true =>
      simp [hl, onB] at hk
      have hr' : Rf S (.cptr t) [pv] := hp
      simp only [Rf] at hr'
      obtain ⟨a, ds, h0, h1, h2, e⟩ := hr'
      simp at e; subst e
      obtain ⟨v, hv, hr⟩ := run_loadVar_at h1 hl (h.cell_old h2)
      exact ⟨t, v, a, hk, rfl, hv, hr⟩
  | _ => simp only [Sx.loadK] at hk

/-- Cells stored one behind the other into a block. -/
theorem run_storeCells_at {P : Program} (g : Nat) (el : TypeId) (o : Nat) : ∀ (vs : List Value) (i : Nat) (cs : Array Value) (w : World),
    w.heap[g]? = some (.cells cs el (0, 0)) → o + i + vs.length ≤ cs.size → (∀ v ∈ vs, v.oneCell' = true) →
    ∃ w' cs', (storeCells ⟨g, o, none⟩ vs i).run P w = .ok () w' ∧ w'.heap[g]? = some (.cells cs' el (0, 0)) ∧
      cs'.toList = cs.toList.take (o + i) ++ vs ++ cs.toList.drop (o + i + vs.length) ∧
      (∀ k, k ≠ g → w'.heap[k]? = w.heap[k]?) ∧ w'.heap.size = w.heap.size ∧ w'.os = w.os ∧ w'.tape = w.tape ∧ w'.output = w.output
  | [], i, cs, w, hg, hl, ho => ⟨w, cs, by simp [storeCells], hg, by simp, fun _ _ => rfl, rfl, rfl, rfl, rfl⟩
  | v :: vs, i, cs, w, hg, hl, ho => by
    simp at hl
    have h1 := ho v (by simp)
    have hlt : o + i < cs.size := by omega
    have hc : w.cell? ⟨g, o + i, none⟩ = some cs[o + i] := by rw [cell_row hg]; simp [hlt]
    have hf : w.frozen? ⟨g, o + i, none⟩ = false := frozen_of_row w g _ cs el hg
    have hs := heap_setCell_same w g (o + i) cs el v hg
    obtain ⟨w', cs', e1, e2, e3, e4, e5, e6, e7, e8⟩ := run_storeCells_at (P := P) g el o vs (i + 1) _ _ hs (by simp; omega) (fun u hu => ho u (by simp [hu]))
    refine ⟨w', cs', ?_, e2, ?_, ?_, ?_, e6, e7, e8⟩
    · simp only [storeCells, Addr.add_none]
      simp [run_store P w _ v .plain h1, hc, hf, e1]
    · rw [e3]
      simp only [Array.toList_setIfInBounds]
      rw [List.set_eq_take_append_cons_drop]
      have : o + i < cs.toList.length := by simpa using hlt
      simp only [this, if_true]
      have ht : (List.take (o + i) cs.toList ++ v :: List.drop (o + i + 1) cs.toList).take (o + (i + 1)) = List.take (o + i) cs.toList ++ [v] := by
        rw [List.take_append]
        simp [Nat.min_eq_left (Nat.le_of_lt hlt)]
        rw [List.take_of_length_le (by simp; omega)]
        simp [show o + (i + 1) - (o + i) = 1 by omega]
      have hd : (List.take (o + i) cs.toList ++ v :: List.drop (o + i + 1) cs.toList).drop (o + (i + 1) + vs.length) = List.drop (o + i + (vs.length + 1)) cs.toList := by
        rw [List.drop_append]
        simp [Nat.min_eq_left (Nat.le_of_lt hlt)]
        rw [List.drop_eq_nil_of_le (by simp; omega)]
        simp [show o + (i + 1) + vs.length - (o + i) = vs.length + 1 by omega, List.drop_drop]
        congr 1; omega
      rw [ht, hd]; simp
    · intro k hk; rw [e4 k hk, heap_setCell_other _ _ _ _ hk]
    · rw [e5]; simp

theorem Rep.upd {S : Sig} {M : Mem} {w w' : World} (h : Rep S M w) {b : Nat} {t t' : SV} (hm : M[b]? = some t) {cs' : Array Value} {el : TypeId}
    (h1 : w'.heap[S.ρ b]? = some (.cells cs' el (0, 0))) (h2 : Rf S t' cs'.toList) (hs : t'.shp = t.shp)
    (h3 : ∀ k, k ≠ S.ρ b → w'.heap[k]? = w.heap[k]?) (h4 : w'.heap.size = w.heap.size) (h5 : w'.os = w.os) (h6 : w'.tape = w.tape) (h7 : w'.output = w.output) :
    Rep S (M.set b t') w' := by
  have hb : b < M.length := by
    rcases Nat.lt_or_ge b M.length with h | h
    · exact h
    · simp [List.getElem?_eq_none h] at hm
  refine ⟨h.base, ?_, by rw [h4]; exact h.size, ?_, h5.trans h.os, h6.trans h.tape, h7.trans h.out, ?_, ?_, ?_⟩
  · rw [h.sh, List.map_set, hs]
    apply List.ext_getElem?
    intro j
    by_cases hj : b = j
    · subst hj; simp [hb]; rw [List.getElem?_eq_getElem hb] at hm; simp at hm; rw [hm]
    · simp [hj]
  · intro k hk hg
    rw [h3 k ?_]
    · exact h.kept k hk hg
    · rintro rfl
      rcases h.new b hb with e | e
      · exact hg e
      · omega
  · simpa using h.inj
  · simpa using h.new
  · intro i u hu
    by_cases hi : b = i
    · subst hi; simp [hb] at hu; subst hu; exact ⟨cs', el, h1, h2⟩
    · rw [List.getElem?_set_ne hi] at hu
      obtain ⟨cs, e, k1, k2⟩ := h.blk i u hu
      have hil : i < M.length := by
        rcases Nat.lt_or_ge i M.length with h | h
        · exact h
        · simp [List.getElem?_eq_none h] at hu
      exact ⟨cs, e, by rw [h3 _ (fun e => hi (h.inj _ _ hil hb e).symm)]; exact k1, k2⟩

theorem Rep.storeK {P : Program} {S : Sig} {M : Mem} {w : World} (h : Rep S M w) {T : TypeId} {p x : SV} {pv xv : Value} (hp : R S p pv) (hx : R S x xv) {K : Mem → Prop} (hk : storeK P T p x M K) :
    ∃ M' a w', K M' ∧ pv = .pointer (some a) ∧ (storeVar T a xv).run P w = .ok () w' ∧ Rep S M' w' ∧ M'.length = M.length := by
  cases p with
  | ptr b p =>
    simp only [Sx.storeK] at hk
    cases hm : getM M b with
    | none => simp [hm] at hk
    | some t =>
      simp only [hm] at hk
      cases hu : SV.put t p x with
      | none => simp [hu] at hk
      | some t' =>
        simp only [hu] at hk
        cases hq : (Nat.beq x.size (P.cellsOf T) && (!Nat.beq x.size 0 && !x.isTup)) with
        | false => simp [hq, onB] at hk
        | true =>
          simp only [hq, onB] at hk
          simp at hq
          obtain ⟨q1, q2, q3⟩ := hq
          have hx1 := R1_cells (R1_of_R hx q3)
          have hlx := Rf_len _ _ hx1
          have hr' : Rf S (.ptr b p) [pv] := hp
          simp only [Rf] at hr'
          obtain ⟨s, o, s', e1, e2, e3⟩ := hr'
          simp at e3; subst e3
          have hm' := hm
          rw [getM_eq] at hm'
          rw [h.sh] at e1
          simp [hm'] at e1; subst e1
          obtain ⟨cs, el, k1, k2⟩ := h.blk b t hm'
          obtain ⟨z1, z2, z3, z4⟩ := put_at p t x t' o s' hu e2 _ _ k2 hx1
          obtain ⟨w', cs', r1, r2, r3, r4, r5, r6, r7, r8⟩ := run_storeCells_at (P := P) (S.ρ b) el o xv.cells.toList 0 cs w k1 (by simpa using z3) (Rf_one _ _ hx1)
          refine ⟨_, ⟨S.ρ b, o, none⟩, w', hk, rfl, ?_, ?_, by simp [setM_eq]⟩
          · have : xv.cells.size = P.cellsOf T := by rw [← q1, ← hlx]; simp
            simp [storeVar, run_sizeOf' (by rw [← q1]; exact nbeq0 q2 : P.cellsOf T ≠ 0), this, r1]
          · rw [setM_eq]
            refine h.upd hm' r2 ?_ z1 r4 r5 r6 r7 r8
            rw [r3]; simpa using z4
  | _ => simp only [Sx.storeK] at hk

theorem Rep.push {S : Sig} {M : Mem} {w : World} (h : Rep S M w) {t : SV} {cs : Array Value} (el : TypeId) (ht : Rf S t cs.toList) :
    ∃ S', Ext S S' ∧ Rep S' (M ++ [t]) { w with heap := w.heap.push (.cells cs el (0, 0)) } ∧ R S' (.ptr M.length []) (.pointer (some ⟨w.heap.size, 0, none⟩)) := by
  let S' : Sig := { S with ρ := fun j => if j = M.length then w.heap.size else S.ρ j, sh := S.sh ++ [t.shp] }
  have hlen : S.sh.length = M.length := by rw [h.sh]; simp
  have hE : Ext S S' := ⟨rfl, rfl, rfl, fun j s e => by
    have : j < S.sh.length := by
      rcases Nat.lt_or_ge j S.sh.length with h | h
      · exact h
      · simp [List.getElem?_eq_none h] at e
    exact ⟨by show (S.sh ++ [t.shp])[j]? = _; rw [List.getElem?_append_left this]; exact e, by show (if j = M.length then _ else _) = _; rw [if_neg (by omega)]⟩⟩
  have hlt : ∀ i u, M[i]? = some u → i < M.length := by
    intro i u hu
    rcases Nat.lt_or_ge i M.length with h | h
    · exact h
    · simp [List.getElem?_eq_none h] at hu
  have hρ : ∀ i, i < M.length → S.ρ i < w.heap.size := by
    intro i hi
    obtain ⟨c, e, k, _⟩ := h.blk i _ (List.getElem?_eq_getElem hi)
    exact (Array.getElem?_eq_some_iff.1 k).1
  refine ⟨S', hE, ⟨⟨h.base.size, h.base.same, h.base.g⟩, ?_, ?_, ?_, h.os, h.tape, h.out, ?_, ?_, ?_⟩, ?_⟩
  · show S.sh ++ [t.shp] = _; rw [h.sh]; simp
  · show S.F.heap.size ≤ _; have := h.size; simp; omega
  · intro k hk hg
    show (w.heap.push _)[k]? = S.F.heap[k]?
    have hk' : k < S.F.heap.size := hk
    have := h.size
    rw [Array.getElem?_push, if_neg (by omega)]; exact h.kept k hk hg
  · intro i j hi hj e
    simp at hi hj
    have e' : (if i = M.length then w.heap.size else S.ρ i) = (if j = M.length then w.heap.size else S.ρ j) := e
    by_cases h1 : i = M.length <;> by_cases h2 : j = M.length
    · omega
    · rw [if_pos h1, if_neg h2] at e'; have := hρ j (by omega); omega
    · rw [if_neg h1, if_pos h2] at e'; have := hρ i (by omega); omega
    · rw [if_neg h1, if_neg h2] at e'; exact h.inj _ _ (by omega) (by omega) e'
  · intro i hi
    simp at hi
    show S.g = some (if i = M.length then w.heap.size else S.ρ i) ∨ S.F.heap.size ≤ (if i = M.length then w.heap.size else S.ρ i)
    by_cases h1 : i = M.length
    · right; rw [if_pos h1]; exact h.size
    · rw [if_neg h1]; exact h.new i (by omega)
  · intro i u hu
    by_cases hi : i < M.length
    · rw [List.getElem?_append_left hi] at hu
      obtain ⟨c, e, k1, k2⟩ := h.blk i u hu
      refine ⟨c, e, ?_, Rf_ext hE k2⟩
      show (w.heap.push _)[if i = M.length then _ else _]? = _
      rw [if_neg (by omega), Array.getElem?_push, if_neg (by have := hρ i hi; omega)]; exact k1
    · have hi' : i = M.length := by
        have : i < (M ++ [t]).length := by
          rcases Nat.lt_or_ge i (M ++ [t]).length with h | h
          · exact h
          · simp [List.getElem?_eq_none h] at hu
        simp at this; omega
      subst hi'
      simp at hu; subst hu
      refine ⟨cs, el, ?_, Rf_ext hE ht⟩
      show (w.heap.push _)[if M.length = M.length then _ else _]? = _
      rw [if_pos rfl]; simp
  · show Rf S' (.ptr M.length []) [_]
    simp only [Rf]
    refine ⟨t.shp, 0, t.shp, ?_, rfl, ?_⟩
    · show (S.sh ++ [t.shp])[M.length]? = _; rw [← hlen]; simp
    · show _ = [Value.pointer (some ⟨if M.length = M.length then _ else _, 0, none⟩)]; rw [if_pos rfl]

theorem Rep.drew {S : Sig} {M : Mem} {w : World} (h : Rep S M w) : Rep S M { w with drawn := w.drawn + 1 } :=
  ⟨h.base, h.sh, h.size, h.kept, h.os, h.tape, h.out, h.inj, h.new, h.blk⟩

end Go.Sx

namespace Go.Sx
open Go.RowKit (Below)
set_option linter.unusedVariables false
set_option linter.unusedSimpArgs false

/-- A part of a struct's or an array's cells. -/
theorem run_part_at {P : Program} {S : Sig} {w : World} {T : TypeId} {t : SV} {cs : Array Value} {o : Nat} (hr : Rf S t ((cs.toList.drop o).take t.size)) (hk : ldOK P T t = true) :
    ∃ v, (part T cs o).run P w = .ok v w ∧ R1 S t v := by
  unfold ldOK at hk
  cases hA : aggT P T with
  | none => simp [hA] at hk
  | some b =>
    cases b with
    | false =>
      simp [hA] at hk
      obtain ⟨v, e, h1, h2⟩ := Rf_sc hr hk.1
      have hv : cs[o]? = some v := by
        have h0 : ((cs.toList.drop o).take t.size)[0]? = some v := by rw [e]; rfl
        rw [List.getElem?_take] at h0
        split at h0
        · simpa using h0
        · simp at h0
      rw [e] at hr
      exact ⟨v, by simp [part, run_isAgg hA, hv], R1_sc hr hk.1⟩
    | true =>
      simp [hA] at hk
      obtain ⟨k1, k2, k3⟩ := hk
      refine ⟨.agg ((cs.toList.drop o).take t.size).toArray, ?_, R1_agg hr k1⟩
      simp only [part, Sem.run_bind, run_isAgg hA, Result.andThen_ok, if_true, run_sizeOf' (by rw [← k2]; exact nbeq0 k3 : P.cellsOf T ≠ 0), Sem.run_pure, ← k2]
      congr 2
      apply Array.toList_inj.1
      simp [List.take_drop, List.extract_eq_take_drop]

theorem eqFields_false {P : Program} {w : World} {d : Nat} {xs ys : Array Value} {f : Field} {fl : List Field} {a b : Value} (hn : f.name ≠ "_")
    (h1 : (part f.type xs f.offset).run P w = .ok a w) (h2 : (part f.type ys f.offset).run P w = .ok b w) (h3 : (Op.equalIn d f.type a b).run P w = .ok false w) :
    (Op.eqFields d xs ys (f :: fl)).run P w = .ok false w := by
  simp [Op.eqFields, hn, h1, h2, h3]
theorem eqFields_true {P : Program} {w : World} {d : Nat} {xs ys : Array Value} {f : Field} {fl : List Field} {a b : Value} (hn : f.name ≠ "_")
    (h1 : (part f.type xs f.offset).run P w = .ok a w) (h2 : (part f.type ys f.offset).run P w = .ok b w) (h3 : (Op.equalIn d f.type a b).run P w = .ok true w) :
    (Op.eqFields d xs ys (f :: fl)).run P w = (Op.eqFields d xs ys fl).run P w := by
  simp [Op.eqFields, hn, h1, h2, h3]


theorem run_part1 {P : Program} {w : World} {e : TypeId} {c : Array Value} {j : Nat} {v : Value} (hA : aggT P e = some false) (h : c[j]? = some v) : (part e c j).run P w = .ok v w := by
  simp [part, run_isAgg hA, h]

theorem run_forList {P : Program} {w : World} (p : Nat → Bool) (f : Nat → Option Bool × Unit → Sem (ForInStep (Option Bool × Unit))) : ∀ (m i : Nat),
    (∀ j, i ≤ j → j < i + m → (f j (none, ())).run P w = .ok (if p j then .yield (none, ()) else .done (some false, ())) w) →
    (forIn (List.range' i m) (none, ()) f).run P w = .ok ((if (List.range' i m).all p then none else some false), ()) w
  | 0, i, h => by simp
  | m + 1, i, h => by
    have ih := run_forList p f m (i + 1) (fun j h1 h2 => h j (by omega) (by omega))
    simp only [List.range'_succ, List.forIn_cons, Sem.run_bind, h i (Nat.le_refl _) (by omega), Result.andThen_ok, List.all_cons]
    cases p i
    · simp
    · simp only [if_true, ih, Bool.true_and]

theorem run_forRange {P : Program} {w : World} (p : Nat → Bool) (f : Nat → Option Bool × Unit → Sem (ForInStep (Option Bool × Unit))) (n : Nat)
    (h : ∀ j, j < n → (f j (none, ())).run P w = .ok (if p j then .yield (none, ()) else .done (some false, ())) w) :
    (forIn [:n] (none, ()) f).run P w = .ok ((if (List.range' 0 n).all p then none else some false), ()) w := by
  have : (forIn [:n] (none, ()) f) = forIn (List.range' 0 n) (none, ()) f := by
    rw [Std.Legacy.Range.forIn_eq_forIn_range']
    simp [Std.Legacy.Range.size]
  rw [this]
  exact run_forList p f n 0 (fun j _ h2 => h j (by omega))

theorem all_eq {n : Nat} {xs ys : List Int} (hx : xs.length = n) (hy : ys.length = n) : ((List.range' 0 n).all fun j => decide (xs.getD j 0 = ys.getD j 0)) = decide (xs = ys) := by
  rw [Bool.eq_iff_iff]
  simp only [List.all_eq_true, decide_eq_true_eq, List.mem_range'_1]
  constructor
  · intro h
    apply List.ext_getElem (by omega)
    intro j h1 h2
    have := h j ⟨by omega, by omega⟩
    simpa [List.getD_eq_getElem?_getD, List.getElem?_eq_getElem h1, List.getElem?_eq_getElem h2] using this
  · rintro rfl j _; rfl

theorem run_equalIn_arr {P : Program} {w : World} {d : Nat} {T e : TypeId} {n : Nat} (hT : P.underlying T = some (.array n e)) (hc : P.cellsOf e = 1) (cx cy : Array Value) (p : Nat → Bool)
    (h : ∀ j, j < n → ∃ a b, (part e cx j).run P w = .ok a w ∧ (part e cy j).run P w = .ok b w ∧ (Op.equalIn d e a b).run P w = .ok (p j) w) :
    (Op.equalIn (d + 1) T (.agg cx) (.agg cy)).run P w = .ok ((List.range' 0 n).all p) w := by
  rw [Op.equalIn]
  simp only [Sem.run_bind, run_underlying hT, Result.andThen_ok, run_sizeOf' (by omega : P.cellsOf e ≠ 0), hc]
  rw [run_forRange p _ n]
  · cases (List.range' 0 n).all p <;> simp
  · intro j hj
    obtain ⟨a, b, h1, h2, h3⟩ := h j hj
    simp only [Nat.mul_one, Sem.run_bind, h1, h2, h3, Result.andThen_ok]
    cases p j <;> simp

theorem run_equalIn_row {P : Program} {w : World} {d : Nat} {T e : TypeId} {n : Nat} {ke k : IntKind} (hT : P.underlying T = some (.array n e)) (he : P.underlying e = some (.int ke)) (hc : P.cellsOf e = 1)
    (xs ys : List Int) (hx : xs.length = n) (hy : ys.length = n) (cx cy : Array Value) (h1 : cx.toList = xs.map (Value.int k)) (h2 : cy.toList = ys.map (Value.int k)) :
    (Op.equalIn (d + 2) T (.agg cx) (.agg cy)).run P w = .ok (decide (xs = ys)) w := by
  have hA : aggT P e = some false := by simp [aggT, he]
  rw [← all_eq hx hy]
  refine run_equalIn_arr hT hc cx cy _ fun j hj => ?_
  have e1 : cx[j]? = some (.int k (xs.getD j 0)) := by
    rw [← Array.getElem?_toList, h1]; simp [List.getD_eq_getElem?_getD, List.getElem?_eq_getElem (by omega : j < xs.length)]
  have e2 : cy[j]? = some (.int k (ys.getD j 0)) := by
    rw [← Array.getElem?_toList, h2]; simp [List.getD_eq_getElem?_getD, List.getElem?_eq_getElem (by omega : j < ys.length)]
  refine ⟨_, _, run_part1 hA e1, run_part1 hA e2, ?_⟩
  rw [run_equalIn_int w d e k ke _ _ he]
  congr 1

theorem eqF_sound {P : Program} {S : Sig} {w : World} {eq : TypeId → SV → SV → Option Bool} {D : Nat} (heq : ∀ (T : TypeId) (x y : SV) (r : Bool) (vx vy : Value), eq T x y = some r → R1 S x vx → R1 S y vy → (Op.equalIn D T vx vy).run P w = .ok r w) : ∀ (fl : List Field) (o : Nat) (xs ys : SVs) (r : Bool) (cx cy : Array Value), eqF P eq fl o xs ys = some r →
    Rfs S xs (cx.toList.drop o) → Rfs S ys (cy.toList.drop o) → (Op.eqFields D cx cy fl).run P w = .ok r w
  | [], o, xs, ys, r, cx, cy, h, hx, hy => by
    cases xs <;> cases ys <;> simp [eqF] at h
    subst h; simp [Op.eqFields]
  | f :: fl, o, .nil, ys, r, cx, cy, h, hx, hy => by cases ys <;> simp [eqF] at h
  | f :: fl, o, .cons x xs, .nil, r, cx, cy, h, hx, hy => by simp [eqF] at h
  | f :: fl, o, .cons x xs, .cons y ys, r, cx, cy, h, hx, hy => by
    simp only [eqF] at h
    split at h
    · rename_i hq hn
      simp at hq hn
      obtain ⟨q1, q2, q3, q4, q5⟩ := hq
      split at h
      · rename_i p q hp hq'
        simp at h
        simp only [Rfs] at hx hy
        obtain ⟨x1, x2, ex, hx1, hx2⟩ := hx
        obtain ⟨y1, y2, ey, hy1, hy2⟩ := hy
        have lx := Rf_len x x1 hx1
        have ly := Rf_len y y1 hy1
        have tx : (cx.toList.drop o).take x.size = x1 := by rw [ex, ← lx]; simp
        have ty : (cy.toList.drop o).take y.size = y1 := by rw [ey, ← ly]; simp
        have dx : cx.toList.drop (o + x.size) = x2 := by rw [← List.drop_drop, ex, ← lx]; simp
        have dy : cy.toList.drop (o + x.size) = y2 := by rw [q3, ← List.drop_drop, ey, ← ly]; simp
        obtain ⟨a, ha, ra⟩ := run_part_at (P := P) (w := w) (T := f.type) (cs := cx) (o := o) (by rw [tx]; exact hx1) q4
        obtain ⟨b, hb, rb⟩ := run_part_at (P := P) (w := w) (T := f.type) (cs := cy) (o := o) (by rw [ty]; exact hy1) q5
        have he := heq f.type x y p a b hp ra rb
        rw [← q1] at ha hb
        cases p with
        | false =>
          rw [eqFields_false hn ha hb he]
          simp at h; rw [h]
        | true =>
          rw [eqFields_true hn ha hb he]
          simp at h; rw [← h]
          exact eqF_sound heq fl (o + x.size) xs ys q cx cy hq' (by rw [dx]; exact hx2) (by rw [dy]; exact hy2)
      · simp at h
    · simp at h
theorem eqT_sound {P : Program} {S : Sig} {w : World} : ∀ (d D : Nat) (T : TypeId) (x y : SV) (r : Bool) (vx vy : Value), d + 1 ≤ D → eqT P d T x y = some r → R1 S x vx → R1 S y vy →
    (Op.equalIn D T vx vy).run P w = .ok r w
  | 0, D, T, x, y, r, vx, vy, hD, h, hx, hy => by simp [eqT] at h
  | d + 1, D, T, x, y, r, vx, vy, hD, h, hx, hy => by
    obtain ⟨D, rfl⟩ : ∃ m, D = m + 2 := ⟨D - 2, by omega⟩
    simp only [eqT] at h
    cases hu : P.underlying T with
    | none => simp [hu] at h
    | some u =>
      cases u with
      | bool =>
        simp only [hu] at h
        cases x <;> cases y <;> simp at h
        subst h
        simp [R1, SV.isA, Rf] at hx hy
        subst hx hy
        simp [Op.equalIn, run_underlying hu]
      | int k =>
        simp only [hu] at h
        cases x <;> cases y <;> (try (simp at h; done))
        dsimp only at h
        split at h
        · rename_i h1
          simp at h
          have := kindEq_eq h1
          subst this h
          simp [R1, SV.isA, Rf] at hx hy
          subst hx hy
          simp [Op.equalIn, run_underlying hu]
        · simp at h
      | struct fs =>
        simp only [hu] at h
        cases hp : P.stoodInHeld T with
        | true => simp [hp] at h
        | false =>
          simp only [hp] at h
          cases x <;> cases y <;> simp at h
          rename_i xs ys
          obtain ⟨cx, rfl, hx⟩ := hx
          obtain ⟨cy, rfl, hy⟩ := hy
          have hf : P.fieldsOf T = fs := by simp [Program.fieldsOf, hu]
          rw [run_equalIn_struct w (D + 1) T cx cy (by rw [hf]; exact hu) hp, hf]
          simp only [Rf] at hx hy
          exact eqF_sound (fun T x y r vx vy => eqT_sound d (D + 1) T x y r vx vy (by omega)) fs.toList 0 xs ys r cx cy h (by simpa using hx) (by simpa using hy)
      | array n e =>
        simp only [hu] at h
        cases x <;> cases y <;> simp at h
        rename_i k m xs k' m' ys
        split at h
        · rename_i hq he
          simp at h
          rename_i ke _
          simp at hq
          obtain ⟨q1, q2, q3, q4⟩ := hq
          have := kindEq_eq q1; subst this
          obtain ⟨cx, rfl, hx⟩ := hx
          obtain ⟨cy, rfl, hy⟩ := hy
          simp only [Rf] at hx hy
          rw [← h]
          exact run_equalIn_row hu he q4 xs ys (by omega) (by omega) cx cy hx.2 hy.2
        · simp at h
      | _ => simp [hu] at h
end Go.Sx

namespace Go.Sx
open Go.RowKit (Below)
set_option linter.unusedVariables false
set_option linter.unusedSimpArgs false

theorem onB_out {x : Bool} {K : Prop} (h : onB x K) : x = true ∧ K := by
  cases x
  · exact h.elim
  · exact ⟨rfl, h⟩

theorem R_i {S : Sig} {k : IntKind} {n : Int} {v : Value} (h : R S (.i k n) v) : v = .int k n := by
  have h' : Rf S (.i k n) [v] := h
  simp only [Rf] at h'; simpa using h'
theorem R_b {S : Sig} {x : Bool} {v : Value} (h : R S (.b x) v) : v = .bool x := by
  have h' : Rf S (.b x) [v] := h
  simp only [Rf] at h'; simpa using h'
theorem R_nilp {S : Sig} {v : Value} (h : R S .nilp v) : v = .pointer none := by
  have h' : Rf S .nilp [v] := h
  simp only [Rf] at h'; simpa using h'
theorem R_ptr {S : Sig} {b : Nat} {p : List PStep} {v : Value} (h : R S (.ptr b p) v) : ∃ a, v = .pointer (some a) := by
  have h' : Rf S (.ptr b p) [v] := h
  simp only [Rf] at h'; obtain ⟨_, _, _, _, _, e⟩ := h'; simp at e; exact ⟨_, e⟩
theorem R_cptr {S : Sig} {t : SV} {v : Value} (h : R S (.cptr t) v) : ∃ a ds, v = .pointer (some a) ∧ t.cl 0 = true ∧ Rf S t ds ∧ Old S a ds := by
  have h' : Rf S (.cptr t) [v] := h
  simp only [Rf] at h'; obtain ⟨a, ds, h0, h1, h2, e⟩ := h'; simp at e; exact ⟨a, ds, e, h0, h1, h2⟩
theorem R_fn {S : Sig} {f : FuncId} {v : Value} (h : R S (.fn f) v) : v = .func (.func f) #[] #[] := by
  have h' : Rf S (.fn f) [v] := h
  simp only [Rf] at h'; simpa using h'
theorem R_mk_i {S : Sig} {k : IntKind} {n : Int} : R S (.i k n) (.int k n) := by show Rf S _ _; simp [Rf]
theorem R_mk_b {S : Sig} {x : Bool} : R S (.b x) (.bool x) := by show Rf S _ _; simp [Rf]
theorem R_agg {S : Sig} {fs : SVs} {v : Value} (h : R S (.agg fs) v) : ∃ cs : Array Value, v = .agg cs ∧ Rfs S fs cs.toList := by
  obtain ⟨cs, e, h⟩ := h; exact ⟨cs, e, by simpa only [Rf] using h⟩
theorem R_arr {S : Sig} {k : IntKind} {n : Nat} {xs : List Int} {v : Value} (h : R S (.arr k n xs) v) : ∃ cs : Array Value, v = .agg cs ∧ xs.length = n ∧ cs.toList = xs.map (.int k) := by
  obtain ⟨cs, e, h⟩ := h; exact ⟨cs, e, by simpa only [Rf] using h⟩

/-! ### Arithmetic -/
theorem ptr_ne {P : Program} {T : TypeId} (h : ptrT P T = true) : ∃ e, P.underlying T = some (.pointer e) := by
  unfold ptrT at h
  cases hu : P.underlying T with
  | none => simp [hu] at h
  | some d => cases d <;> simp [hu] at h; exact ⟨_, rfl⟩

theorem eq_pp {P : Program} {w : World} {T : TypeId} (h : ptrT P T = true) : (Op.equal T (.pointer none) (.pointer none)).run P w = .ok true w := by
  obtain ⟨e, hu⟩ := ptr_ne h
  rw [Op.equal, show Op.maxDepth = 9999 + 1 from rfl, Op.equalIn]
  simp [run_underlying hu]
theorem eq_pn {P : Program} {w : World} {T : TypeId} {a : Addr} (h : ptrT P T = true) : (Op.equal T (.pointer (some a)) (.pointer none)).run P w = .ok false w := by
  obtain ⟨e, hu⟩ := ptr_ne h
  rw [Op.equal, show Op.maxDepth = 9999 + 1 from rfl, Op.equalIn]
  simp [run_underlying hu]

theorem eqA {P : Program} {S : Sig} {w : World} {T : TypeId} {x y : SV} {r : Bool} {vx vy : Value} (h : eqT P 30 T x y = some r) (hx : R1 S x vx) (hy : R1 S y vy) :
    (Op.equal T vx vy).run P w = .ok r w := eqT_sound 30 Op.maxDepth T x y r vx vy (by decide) h hx hy

theorem binK_sound {P : Program} {S : Sig} {w : World} {op : BinOp} {T : TypeId} {a b : SV} {x y : Value} {ox oy : Operand} {K : SV → Prop} (hk : binK P op T a b K) (hx : R S a x) (hy : R S b y) :
    ∃ sv v, K sv ∧ (do eqGuard op T ox oy x y; binOp op T x y : Sem Value).run P w = .ok v w ∧ R S sv v := by
  cases op
  case eql =>
    simp only [binK] at hk
    split at hk
    · obtain ⟨h1, hk2⟩ := onB_out hk
      have := kindEq_eq h1
      rw [R_i hx, R_i hy, this]
      refine ⟨_, _, hk2, ?_, R_mk_b⟩
      simp [eqGuard, binOp, Op.intCmp]
    · split at hk
      · rename_i r hg he
        have hE := eqA (w := w) he hx hy
        obtain ⟨cx, e1, _⟩ := R_agg hx
        obtain ⟨cy, e2, _⟩ := R_agg hy
        subst e1 e2
        refine ⟨_, _, hk, ?_, R_mk_b⟩
        simp [run_eqGuard_agg _ _ _ _ _ _ _ hg, binOp, hE]
      · exact hk.elim
    · split at hk
      · rename_i r hg he
        have hE := eqA (w := w) he hx hy
        obtain ⟨cx, e1, _⟩ := R_arr hx
        obtain ⟨cy, e2, _⟩ := R_arr hy
        subst e1 e2
        refine ⟨_, _, hk, ?_, R_mk_b⟩
        simp [run_eqGuard_agg _ _ _ _ _ _ _ hg, binOp, hE]
      · exact hk.elim
    · split at hk
      · rename_i r he
        have hE := eqA (S := S) (w := w) he hx hy
        rw [R_b hx, R_b hy] at hE ⊢
        refine ⟨_, _, hk, ?_, R_mk_b⟩
        simp [eqGuard, binOp, hE]
      · exact hk.elim
    · obtain ⟨h1, hk2⟩ := onB_out hk
      rw [R_nilp hx, R_nilp hy]
      refine ⟨_, _, hk2, ?_, R_mk_b⟩
      simp [eqGuard, binOp, eq_pp h1]
    · obtain ⟨h1, hk2⟩ := onB_out hk
      obtain ⟨a, e1⟩ := R_ptr hx
      rw [e1, R_nilp hy]
      refine ⟨_, _, hk2, ?_, R_mk_b⟩
      simp [eqGuard, binOp, eq_pn h1]
    · obtain ⟨h1, hk2⟩ := onB_out hk
      obtain ⟨a, _, e1, _⟩ := R_cptr hx
      rw [e1, R_nilp hy]
      refine ⟨_, _, hk2, ?_, R_mk_b⟩
      simp [eqGuard, binOp, eq_pn h1]
    · exact hk.elim
  case neq =>
    simp only [binK] at hk
    split at hk
    · obtain ⟨h1, hk2⟩ := onB_out hk
      have := kindEq_eq h1
      rw [R_i hx, R_i hy, this]
      refine ⟨_, _, hk2, ?_, R_mk_b⟩
      simp [eqGuard, binOp, Op.intCmp]
    · split at hk
      · rename_i r hg he
        have hE := eqA (w := w) he hx hy
        obtain ⟨cx, e1, _⟩ := R_agg hx
        obtain ⟨cy, e2, _⟩ := R_agg hy
        subst e1 e2
        refine ⟨_, _, hk, ?_, R_mk_b⟩
        simp [run_eqGuard_agg _ _ _ _ _ _ _ hg, binOp, hE]
      · exact hk.elim
    · split at hk
      · rename_i r hg he
        have hE := eqA (w := w) he hx hy
        obtain ⟨cx, e1, _⟩ := R_arr hx
        obtain ⟨cy, e2, _⟩ := R_arr hy
        subst e1 e2
        refine ⟨_, _, hk, ?_, R_mk_b⟩
        simp [run_eqGuard_agg _ _ _ _ _ _ _ hg, binOp, hE]
      · exact hk.elim
    · split at hk
      · rename_i r he
        have hE := eqA (S := S) (w := w) he hx hy
        rw [R_b hx, R_b hy] at hE ⊢
        refine ⟨_, _, hk, ?_, R_mk_b⟩
        simp [eqGuard, binOp, hE]
      · exact hk.elim
    · obtain ⟨h1, hk2⟩ := onB_out hk
      rw [R_nilp hx, R_nilp hy]
      refine ⟨_, _, hk2, ?_, R_mk_b⟩
      simp [eqGuard, binOp, eq_pp h1]
    · obtain ⟨h1, hk2⟩ := onB_out hk
      obtain ⟨a, e1⟩ := R_ptr hx
      rw [e1, R_nilp hy]
      refine ⟨_, _, hk2, ?_, R_mk_b⟩
      simp [eqGuard, binOp, eq_pn h1]
    · obtain ⟨h1, hk2⟩ := onB_out hk
      obtain ⟨a, _, e1, _⟩ := R_cptr hx
      rw [e1, R_nilp hy]
      refine ⟨_, _, hk2, ?_, R_mk_b⟩
      simp [eqGuard, binOp, eq_pn h1]
    · exact hk.elim
  case quo =>
    simp only [binK] at hk
    split at hk
    · obtain ⟨h1, hk2⟩ := onB_out hk
      obtain ⟨h2, hk3⟩ := onB_out hk2
      have := kindEq_eq h1
      rw [R_i hx, R_i hy, this]
      rw [this] at hk3
      simp at h2
      refine ⟨_, _, hk3, ?_, R_mk_i⟩
      simp [eqGuard, binOp, Op.intDiv, h2]
    · exact hk.elim
  case rem =>
    simp only [binK] at hk
    split at hk
    · obtain ⟨h1, hk2⟩ := onB_out hk
      obtain ⟨h2, hk3⟩ := onB_out hk2
      have := kindEq_eq h1
      rw [R_i hx, R_i hy, this]
      rw [this] at hk3
      simp at h2
      refine ⟨_, _, hk3, ?_, R_mk_i⟩
      simp [eqGuard, binOp, Op.intDiv, h2]
    · exact hk.elim
  case shl =>
    simp only [binK] at hk
    split at hk
    · obtain ⟨h2, hk2⟩ := onB_out hk
      rw [R_i hx, R_i hy]
      refine ⟨_, _, hk2, ?_, R_mk_i⟩
      simp at h2
      simp [eqGuard, binOp, Op.shift, Int.not_lt.2 h2, ishl]
    · exact hk.elim
  case shr =>
    simp only [binK] at hk
    split at hk
    · obtain ⟨h2, hk2⟩ := onB_out hk
      rw [R_i hx, R_i hy]
      refine ⟨_, _, hk2, ?_, R_mk_i⟩
      simp at h2
      simp [eqGuard, binOp, Op.shift, Int.not_lt.2 h2, ishr]
    · exact hk.elim
  case add =>
    simp only [binK] at hk
    split at hk
    · obtain ⟨h1, hk2⟩ := onB_out hk
      have := kindEq_eq h1
      rw [R_i hx, R_i hy, this]
      rw [this] at hk2
      refine ⟨_, _, hk2, ?_, R_mk_i⟩
      simp [eqGuard, binOp, Op.intArith]
    · exact hk.elim
  case sub =>
    simp only [binK] at hk
    split at hk
    · obtain ⟨h1, hk2⟩ := onB_out hk
      have := kindEq_eq h1
      rw [R_i hx, R_i hy, this]
      rw [this] at hk2
      refine ⟨_, _, hk2, ?_, R_mk_i⟩
      simp [eqGuard, binOp, Op.intArith]
    · exact hk.elim
  case mul =>
    simp only [binK] at hk
    split at hk
    · obtain ⟨h1, hk2⟩ := onB_out hk
      have := kindEq_eq h1
      rw [R_i hx, R_i hy, this]
      rw [this] at hk2
      refine ⟨_, _, hk2, ?_, R_mk_i⟩
      simp [eqGuard, binOp, Op.intArith]
    · exact hk.elim
  case and =>
    simp only [binK] at hk
    split at hk
    · obtain ⟨h1, hk2⟩ := onB_out hk
      have := kindEq_eq h1
      rw [R_i hx, R_i hy, this]
      rw [this] at hk2
      refine ⟨_, _, hk2, ?_, R_mk_i⟩
      simp [eqGuard, binOp, Op.intBits, iand, ior, ixor, iandn]
    · exact hk.elim
  case or =>
    simp only [binK] at hk
    split at hk
    · obtain ⟨h1, hk2⟩ := onB_out hk
      have := kindEq_eq h1
      rw [R_i hx, R_i hy, this]
      rw [this] at hk2
      refine ⟨_, _, hk2, ?_, R_mk_i⟩
      simp [eqGuard, binOp, Op.intBits, iand, ior, ixor, iandn]
    · exact hk.elim
  case xor =>
    simp only [binK] at hk
    split at hk
    · obtain ⟨h1, hk2⟩ := onB_out hk
      have := kindEq_eq h1
      rw [R_i hx, R_i hy, this]
      rw [this] at hk2
      refine ⟨_, _, hk2, ?_, R_mk_i⟩
      simp [eqGuard, binOp, Op.intBits, iand, ior, ixor, iandn]
    · exact hk.elim
  case andNot =>
    simp only [binK] at hk
    split at hk
    · obtain ⟨h1, hk2⟩ := onB_out hk
      have := kindEq_eq h1
      rw [R_i hx, R_i hy, this]
      rw [this] at hk2
      refine ⟨_, _, hk2, ?_, R_mk_i⟩
      simp [eqGuard, binOp, Op.intBits, iand, ior, ixor, iandn]
    · exact hk.elim
  case lss =>
    simp only [binK] at hk
    split at hk
    · obtain ⟨h1, hk2⟩ := onB_out hk
      have := kindEq_eq h1
      rw [R_i hx, R_i hy, this]
      skip
      refine ⟨_, _, hk2, ?_, R_mk_b⟩
      simp [eqGuard, binOp, Op.intCmp]
    · exact hk.elim
  case leq =>
    simp only [binK] at hk
    split at hk
    · obtain ⟨h1, hk2⟩ := onB_out hk
      have := kindEq_eq h1
      rw [R_i hx, R_i hy, this]
      skip
      refine ⟨_, _, hk2, ?_, R_mk_b⟩
      simp [eqGuard, binOp, Op.intCmp]
    · exact hk.elim
  case gtr =>
    simp only [binK] at hk
    split at hk
    · obtain ⟨h1, hk2⟩ := onB_out hk
      have := kindEq_eq h1
      rw [R_i hx, R_i hy, this]
      skip
      refine ⟨_, _, hk2, ?_, R_mk_b⟩
      simp [eqGuard, binOp, Op.intCmp]
    · exact hk.elim
  case geq =>
    simp only [binK] at hk
    split at hk
    · obtain ⟨h1, hk2⟩ := onB_out hk
      have := kindEq_eq h1
      rw [R_i hx, R_i hy, this]
      skip
      refine ⟨_, _, hk2, ?_, R_mk_b⟩
      simp [eqGuard, binOp, Op.intCmp]
    · exact hk.elim

theorem unK_sound {P : Program} {S : Sig} {w : World} {op : UnOp} {a : SV} {x : Value} {K : SV → Prop} (hk : unK op a K) (hx : R S a x) :
    ∃ sv v, K sv ∧ (Op.unary op x).run P w = .ok v w ∧ R S sv v := by
  cases op <;> simp only [unK] at hk
  · split at hk
    · rw [R_i hx]; refine ⟨_, _, hk, ?_, R_mk_i⟩; simp [Op.unary, Op.intArith]
    · exact hk.elim
  · split at hk
    · rw [R_i hx]
      refine ⟨_, _, hk, ?_, R_mk_i⟩
      rename_i k n
      cases k <;> rfl
    · exact hk.elim
  · split at hk
    · rw [R_b hx]; refine ⟨_, _, hk, ?_, R_mk_b⟩; simp [Op.unary]
    · exact hk.elim

end Go.Sx

namespace Go.Sx
open Go.RowKit (Below)
set_option linter.unusedVariables false
set_option linter.unusedSimpArgs false

theorem at_snoc : ∀ (p : List PStep) (s s' s2 : Shp) (o o2 : Nat) (q : PStep), s.at p = some (o, s') → s'.at [q] = some (o2, s2) → s.at (p ++ [q]) = some (o + o2, s2)
  | [], s, s', s2, o, o2, q, h, h2 => by
    simp [Shp.at] at h; obtain ⟨rfl, rfl⟩ := h
    simpa using h2
  | .f k :: p, s, s', s2, o, o2, q, h, h2 => by
    cases s with
    | nd l =>
      simp only [Shp.at] at h
      simp only [List.cons_append, Shp.at]
      cases ho : l.off k with
      | none => simp [ho] at h
      | some x =>
        obtain ⟨o1, s1⟩ := x
        simp only [ho] at h ⊢
        cases ha : s1.at p with
        | none => simp [ha] at h
        | some y =>
          obtain ⟨o3, s3⟩ := y
          simp [ha] at h; obtain ⟨rfl, rfl⟩ := h
          rw [at_snoc p s1 _ s2 o3 o2 q ha h2]
          simp; omega
    | _ => simp [Shp.at] at h
  | .x ix :: p, s, s', s2, o, o2, q, h, h2 => by
    cases s with
    | ar k n =>
      cases p with
      | nil =>
        simp only [Shp.at] at h
        split at h
        · simp at h; obtain ⟨rfl, rfl⟩ := h
          cases q <;> simp [Shp.at] at h2
        · simp at h
      | cons _ _ => simp [Shp.at] at h
    | _ => simp [Shp.at] at h

theorem Addr.add_mk (b o n : Nat) : (⟨b, o, none⟩ : Addr).add n = ⟨b, o + n, none⟩ := Addr.add_none b o n

section
variable {P : Program} {S : Sig} {M : Mem} {w : World}

/-- The pointer behind one more step. -/
theorem Rep.snoc (h : Rep S M w) {b : Nat} {p : List PStep} {v : Value} {t u : SV} (hr : R S (.ptr b p) v) (hm : getM M b = some t) (hg : SV.get t p = some u) {q : PStep} {o2 : Nat} {s2 : Shp}
    (h2 : u.shp.at [q] = some (o2, s2)) : ∃ o, v = .pointer (some ⟨S.ρ b, o, none⟩) ∧ R S (.ptr b (p ++ [q])) (.pointer (some ⟨S.ρ b, o + o2, none⟩)) := by
  obtain ⟨o, cs, el, e, h1, _, _, _, _⟩ := h.addr hr hm hg
  refine ⟨o, e, ?_⟩
  show Rf S _ _
  simp only [Rf]
  rw [getM_eq] at hm
  exact ⟨t.shp, o + o2, s2, by rw [h.sh]; simp [hm], at_snoc p _ _ _ _ _ _ h1 h2, rfl⟩

theorem Old.sub {a : Addr} {ds : List Value} (h : Old S a ds) (o n : Nat) : Old S (a.add o) ((ds.drop o).take n) := by
  obtain ⟨h1, h3⟩ := h
  have hb : (a.add o).block = a.block := by unfold Addr.add; split <;> rfl
  refine ⟨by rw [hb]; exact h1, ?_⟩
  intro j v hj
  rw [Addr.add_add]
  rw [List.getElem?_take] at hj
  split at hj
  · rw [List.getElem?_drop] at hj; exact h3 _ _ hj
  · simp at hj

theorem R_cptr_mk {t : SV} {a : Addr} {ds : List Value} (h0 : t.cl 0 = true) (h1 : Rf S t ds) (h2 : Old S a ds) : R S (.cptr t) (.pointer (some a)) := by
  show Rf S _ _
  simp only [Rf]; exact ⟨a, ds, h0, h1, h2, rfl⟩

theorem pre_Rfs : ∀ (fs : SVs) (k o : Nat) (a : SV), fs.pre k = some (o, a) → ∀ cs, Rfs S fs cs → o + a.size ≤ cs.length ∧ Rf S a ((cs.drop o).take a.size) := by
  intro fs k o a h cs hr
  obtain ⟨h1, h2⟩ := pre_off fs k o a h
  obtain ⟨_, h3, h4⟩ := get_off fs k a o _ h1 h2 cs hr
  exact ⟨h3, h4⟩

theorem pre_cl {n : Nat} : ∀ (fs : SVs) (k o : Nat) (a : SV), fs.pre k = some (o, a) → fs.cl n = true → a.cl n = true
  | .nil, k, o, a, h, _ => by simp [SVs.pre] at h
  | .cons u l, 0, o, a, h, hc => by simp [SVs.pre] at h; obtain ⟨_, rfl⟩ := h; simp [SVs.cl] at hc; exact hc.1
  | .cons u l, k + 1, o, a, h, hc => by
    simp only [SVs.pre] at h
    cases ho : l.pre k with
    | none => simp [ho] at h
    | some q =>
      obtain ⟨o1, a1⟩ := q
      simp [ho] at h; obtain ⟨rfl, rfl⟩ := h
      simp [SVs.cl] at hc; exact pre_cl l k o1 a1 ho hc.2

theorem fieldK_out {T : TypeId} {f : Nat} {t : SV} {K : SV → Prop} (hk : fieldK P T f t K) :
    ∃ fs o ft a, t = .agg fs ∧ fOff P T f = some (o, ft) ∧ fs.pre f = some (o, a) ∧ P.cellsOf ft = a.size ∧ P.cellsOf ft ≠ 0 ∧ K a := by
  unfold fieldK at hk
  split at hk
  · rename_i fs
    split at hk
    · rename_i o ft o' a h1 h2
      obtain ⟨h3, hk2⟩ := onB_out hk
      simp at h3
      obtain ⟨e1, e2, e3⟩ := h3
      rw [← e1] at h2
      exact ⟨fs, _, _, _, rfl, h1, h2, e2, by rw [e2]; exact nbeq0 e3, hk2⟩
    · exact hk.elim
  · exact hk.elim

theorem fOff_out {T : TypeId} {f o : Nat} {ft : TypeId} (h : fOff P T f = some (o, ft)) : ∃ fs fl, P.underlying T = some (.struct fs) ∧ fs[f]? = some fl ∧ fl.offset = o ∧ fl.type = ft := by
  unfold fOff at h
  split at h
  · rename_i fs hu
    split at h
    · rename_i fl hf
      simp at h; exact ⟨fs, fl, hu, hf, h.1, h.2⟩
    · simp at h
  · simp at h

theorem run_fieldAt {T : TypeId} {f o : Nat} {ft : TypeId} {a : Addr} (h : fOff P T f = some (o, ft)) (hc : P.cellsOf ft ≠ 0) :
    (Instr.fieldAt T (.pointer (some a)) f).run P w = .ok (.pointer (some (a.add o))) w := by
  obtain ⟨fs, fl, hu, hf, rfl, rfl⟩ := fOff_out h
  simp [Instr.fieldAt, run_underlying hu, hf, Instr.sureAddr, fieldPlace, run_sizeOf' hc, hc]

theorem fieldAddrK_sound (h : Rep S M w) {T : TypeId} {f : Nat} {p : SV} {v : Value} {K : SV → Prop} (hk : fieldAddrK P T f p M K) (hr : R S p v) :
    ∃ sv v', K sv ∧ (Instr.fieldAt T v f).run P w = .ok v' w ∧ R S sv v' := by
  unfold fieldAddrK at hk
  split at hk
  · rename_i b p
    split at hk
    · rename_i t hm
      split at hk
      · rename_i u hg
        obtain ⟨fs, o, ft, a, rfl, h1, h2, h3, h4, hk⟩ := fieldK_out hk
        obtain ⟨e1, e2⟩ := pre_off _ _ _ _ h2
        obtain ⟨o0, rfl, hr'⟩ := h.snoc (q := .f f) (o2 := o) (s2 := a.shp) hr hm hg (by simp [SV.shp, Shp.at, e2])
        exact ⟨_, _, hk, by rw [run_fieldAt h1 h4, Addr.add_none], hr'⟩
      · exact hk.elim
    · exact hk.elim
  · rename_i t
    obtain ⟨fs, o, ft, a, rfl, h1, h2, h3, h4, hk⟩ := fieldK_out hk
    obtain ⟨ad, ds, rfl, c0, c1, c2⟩ := R_cptr hr
    simp only [Rf] at c1
    obtain ⟨_, r1⟩ := pre_Rfs fs f o a h2 ds c1
    refine ⟨_, _, hk, run_fieldAt h1 h4, R_cptr_mk ?_ r1 (c2.sub o _)⟩
    exact pre_cl fs f o a h2 (by simpa [SV.cl] using c0)
  · exact hk.elim

theorem fieldV_sound {T : TypeId} {f : Nat} {t : SV} {v : Value} {K : SV → Prop}
    (hk : fieldK P T f t (fun v => match fOff P T f with
      | some (_, ft) => onB (ldOK P ft v) (K v)
      | none => False)) (hr : R S t v) : ∃ sv v', K sv ∧ (Instr.field T v f).run P w = .ok v' w ∧ R S sv v' := by
  obtain ⟨fs, o, ft, a, rfl, h1, h2, h3, h4, hk1⟩ := fieldK_out hk
  simp only [h1] at hk1
  obtain ⟨hl, hk2⟩ := onB_out hk1
  obtain ⟨cs, rfl, hr2⟩ := R_agg hr
  obtain ⟨_, r1⟩ := pre_Rfs fs f o a h2 cs.toList hr2
  obtain ⟨v', e, r⟩ := run_part_at (w := w) r1 hl
  obtain ⟨fl, g, hu, hf, e1, e2⟩ := fOff_out h1
  refine ⟨a, v', hk2, ?_, R_of_R1 r⟩
  simp [Instr.field, run_underlying hu, hf, asAgg, e1, e2, e]

/-! ### Elements -/
theorem inB_out {i : Int} {n : Nat} (h : inB i n = true) : 0 ≤ i ∧ i < n := by simpa [inB] using h

theorem elemK_out {T : TypeId} {t : SV} {ix : Int} {K : PStep → SV → Prop} (hk : elemK P T t ix K) :
    ∃ n e q a o, P.underlying T = some (.array n e) ∧ 0 ≤ ix ∧ ix < n ∧ P.cellsOf e ≠ 0 ∧ o = ix.toNat * P.cellsOf e ∧ K q a ∧ t.shp.at [q] = some (o, a.shp) ∧ a.size = P.cellsOf e ∧ (∀ m, t.cl m = true → a.cl m = true) ∧
      ∀ (S : Sig) cs, Rf S t cs → Rf S a ((cs.drop o).take a.size) := by
  unfold elemK at hk
  split at hk
  · rename_i n e hT
    have hu : P.underlying T = some (.array n e) := by
      unfold arrT at hT
      split at hT
      · rename_i hu; simp at hT; obtain ⟨rfl, rfl⟩ := hT; exact hu
      · simp at hT
    split at hk
    · rename_i k m xs
      obtain ⟨h1, hk2⟩ := onB_out hk
      obtain ⟨h2, hk3⟩ := onB_out hk2
      simp at h1
      obtain ⟨e0, h1⟩ := h1
      obtain ⟨i0, i1⟩ := inB_out h2
      subst e0
      refine ⟨n, e, _, _, ix.toNat, hu, i0, i1, by omega, by rw [h1]; simp, hk3, by simp [SV.shp, Shp.at, i0, i1], by simp [SV.size, h1], by simp [SV.cl], ?_⟩
      intro S cs hr
      obtain ⟨_, _, h5⟩ := get_at (S := S) [.x ix] (.arr k n xs) _ ix.toNat .sc rfl (by simp [SV.shp, Shp.at, i0, i1]) cs hr
      exact h5
    · rename_i fs
      obtain ⟨h2, hk2⟩ := onB_out hk
      obtain ⟨i0, i1⟩ := inB_out h2
      split at hk2
      · rename_i o a hp
        obtain ⟨h3, hk3⟩ := onB_out hk2
        simp at h3
        obtain ⟨e1, e2, e3⟩ := h3
        obtain ⟨p1, p2⟩ := pre_off _ _ _ _ hp
        refine ⟨n, e, _, _, o, hu, i0, i1, by rw [← e2]; exact nbeq0 e3, e1, hk3, by simp [SV.shp, Shp.at, p2], e2, fun m hm => pre_cl fs _ _ _ hp (by simpa [SV.cl] using hm), ?_⟩
        intro S cs hr
        simp only [Rf] at hr
        exact (pre_Rfs fs _ _ _ hp cs hr).2
      · exact hk2.elim
    · exact hk.elim
  · exact hk.elim

theorem run_indexAt_arr {T e : TypeId} {n : Nat} {k : IntKind} {i : Int} {a : Addr} (hu : P.underlying T = some (.array n e)) (h0 : 0 ≤ i) (h1 : i < n) (hc : P.cellsOf e ≠ 0) :
    (Instr.indexAt T (.pointer (some a)) (.int k i)).run P w = .ok (.pointer (some (a.add (i.toNat * P.cellsOf e)))) w := by
  simp [Instr.indexAt, asIntOf, run_underlying hu, Instr.sureAddr, h0, h1, run_sizeOf' hc]

theorem run_indexAt_sl {T e : TypeId} {n cap : Nat} {k : IntKind} {i : Int} {a : Addr} (hu : P.underlying T = some (.slice e)) (h0 : 0 ≤ i) (h1 : i < n) (hc : P.cellsOf e ≠ 0) :
    (Instr.indexAt T (.slice (some a) n cap) (.int k i)).run P w = .ok (.pointer (some (a.add (i.toNat * P.cellsOf e)))) w := by
  simp [Instr.indexAt, asIntOf, run_underlying hu, h0, h1, run_sizeOf' hc]

theorem sliT_out {T e : TypeId} (h : sliT P T = some e) : P.underlying T = some (.slice e) := by
  unfold sliT at h
  split at h
  · rename_i hu; simp at h; subst h; exact hu
  · simp at h

theorem indexAddrK_sound (h : Rep S M w) {T : TypeId} {p ix : SV} {v vi : Value} {K : SV → Prop} (hk : indexAddrK P T p ix M K) (hr : R S p v) (hi : R S ix vi) :
    ∃ sv v', K sv ∧ (Instr.indexAt T v vi).run P w = .ok v' w ∧ R S sv v' := by
  unfold indexAddrK at hk
  split at hk
  · rename_i k n
    rw [R_i hi]
    split at hk
    · rename_i b p
      split at hk
      · rename_i t hm
        split at hk
        · rename_i u hg
          obtain ⟨m, e, q, a, o, hu, i0, i1, hc, ho, hk, hs, hz, _, _⟩ := elemK_out hk
          obtain ⟨o0, rfl, hr'⟩ := h.snoc (q := q) hr hm hg hs
          exact ⟨_, _, hk, by rw [run_indexAt_arr hu i0 i1 hc, Addr.add_none, ← ho], hr'⟩
        · exact hk.elim
      · exact hk.elim
    · obtain ⟨m, e, q, a, o, hu, i0, i1, hc, ho, hk, hs, hz, hcl, hR⟩ := elemK_out hk
      obtain ⟨ad, ds, rfl, c0, c1, c2⟩ := R_cptr hr
      refine ⟨_, _, hk, run_indexAt_arr hu i0 i1 hc, R_cptr_mk (hcl 0 c0) (hR S ds c1) ?_⟩
      rw [← ho]; exact c2.sub o _
    · rename_i b p off len cap
      split at hk
      · rename_i e hT
        obtain ⟨h1, hk2⟩ := onB_out hk
        obtain ⟨h2, hk3⟩ := onB_out hk2
        simp at h1
        obtain ⟨i0, i1⟩ := inB_out h2
        have hr' : Rf S (.sl b p off len cap) [v] := hr
        simp only [Rf] at hr'
        obtain ⟨s, o, k', m, a, z1, z2, z3, z4, z5, z6, z7, z8⟩ := hr'
        simp at z5; subst z5
        refine ⟨_, _, hk3, run_indexAt_sl (sliT_out hT) i0 i1 (by omega), ?_⟩
        show Rf S _ _
        simp only [Rf]
        refine ⟨s, o + (Int.ofNat off + n).toNat, .sc, z1, at_snoc p s _ _ _ _ _ z2 ?_, ?_⟩
        · simp only [Shp.at]
          rw [if_pos (by constructor <;> (simp; omega))]
        · have := z8 (by omega)
          rw [h1]
          have ea : a = ⟨S.ρ b, o + off, none⟩ := by
            cases a; simp_all
          rw [ea, Addr.add_none]
          simp; omega
      · exact hk.elim
    · rename_i k' xs
      split at hk
      · rename_i e hT
        obtain ⟨h1, hk2⟩ := onB_out hk
        obtain ⟨h2, hk3⟩ := onB_out hk2
        simp at h1
        obtain ⟨i0, i1⟩ := inB_out h2
        have hr' : Rf S (.roi k' xs) [v] := hr
        simp only [Rf] at hr'
        obtain ⟨a, cap, z1, z2, z3, z4⟩ := hr'
        simp at z2; subst z2
        cases a with
        | none => have := z3 rfl; subst this; simp at i1; omega
        | some a =>
          have hne : xs ≠ [] := by rintro rfl; simp at i1; omega
          have ho := (z4 a rfl).resolve_left hne
          refine ⟨_, _, hk3, run_indexAt_sl (sliT_out hT) i0 i1 (by omega), R_cptr_mk (by simp [SV.cl]) (ds := [.int k' (xs.getD n.toNat 0)]) (by simp [Rf]) ?_⟩
          have hs := ho.sub (n.toNat * P.cellsOf e) 1
          rw [h1] at hs ⊢
          have hlt : n.toNat < xs.length := by omega
          have : ((xs.map (Value.int k')).drop (n.toNat * 1)).take 1 = [.int k' (xs.getD n.toNat 0)] := by
            rw [Nat.mul_one, List.drop_eq_getElem_cons (by simpa using hlt)]
            simp [List.getD_eq_getElem?_getD, List.getElem?_eq_getElem hlt]
          rw [this] at hs; exact hs
      · exact hk.elim
    · rename_i m g
      split at hk
      · rename_i e hT
        obtain ⟨h2, hk2⟩ := onB_out hk
        obtain ⟨h1, hk3⟩ := onB_out hk2
        simp at h1
        obtain ⟨h1, h5⟩ := h1
        obtain ⟨i0, i1⟩ := inB_out h2
        have hr' : Rf S (.ros m g) [v] := hr
        simp only [Rf] at hr'
        obtain ⟨a, cap, z1, z2, z3, z4⟩ := hr'
        simp at z2; subst z2
        obtain ⟨y0, ds, y1, y2⟩ := z4 n.toNat (by omega)
        cases a with
        | none => have := z3 rfl; omega
        | some a =>
          refine ⟨_, _, hk3, run_indexAt_sl (sliT_out hT) i0 i1 (nbeq0 h5), R_cptr_mk y0 y1 ?_⟩
          rw [← h1]; exact y2 a rfl
      · exact hk.elim
    · exact hk.elim
  · exact hk.elim

end

end Go.Sx

namespace Go.Sx
open Go.RowKit (Below)
set_option linter.unusedVariables false
set_option linter.unusedSimpArgs false

theorem foldl_splice (off : Nat) : ∀ (vs : List Value) (k : Nat) (cs : Array Value), off + k + vs.length ≤ cs.size →
    ((vs.zipIdx k).foldl (fun cs (x : Value × Nat) => cs.setIfInBounds (off + x.2) x.1) cs).toList = cs.toList.take (off + k) ++ vs ++ cs.toList.drop (off + k + vs.length)
  | [], k, cs, h => by simp
  | v :: vs, k, cs, h => by
    simp at h
    simp only [List.zipIdx_cons, List.foldl_cons]
    rw [foldl_splice off vs (k + 1) _ (by simp; omega)]
    simp only [Array.toList_setIfInBounds]
    rw [List.set_eq_take_append_cons_drop]
    have : off + k < cs.toList.length := by simp; omega
    simp only [this, if_true]
    have ht : (List.take (off + k) cs.toList ++ v :: List.drop (off + k + 1) cs.toList).take (off + (k + 1)) = List.take (off + k) cs.toList ++ [v] := by
      rw [List.take_append]
      simp [Nat.min_eq_left (by omega : off + k ≤ cs.size)]
      rw [List.take_of_length_le (by simp; omega)]
      simp [show off + (k + 1) - (off + k) = 1 by omega]
    have hd : (List.take (off + k) cs.toList ++ v :: List.drop (off + k + 1) cs.toList).drop (off + (k + 1) + vs.length) = List.drop (off + k + (vs.length + 1)) cs.toList := by
      rw [List.drop_append]
      simp [Nat.min_eq_left (by omega : off + k ≤ cs.size)]
      rw [List.drop_eq_nil_of_le (by simp; omega)]
      simp [show off + (k + 1) + vs.length - (off + k) = vs.length + 1 by omega, List.drop_drop]
      congr 1; omega
    rw [ht, hd]; simp

theorem fold_cells (off : Nat) (v : Value) (cs : Array Value) (h : off + v.cells.size ≤ cs.size) :
    (v.cells.zipIdx.foldl (fun cs (x : Value × Nat) => cs.setIfInBounds (off + x.2) x.1) cs).toList = cs.toList.take off ++ v.cells.toList ++ cs.toList.drop (off + v.cells.size) := by
  have := foldl_splice off v.cells.toList 0 cs (by simpa using h)
  rw [← Array.foldl_toList, Array.toList_zipIdx]
  simpa using this

def PartsR (S : Sig) : List (Nat × SV) → List (Nat × Value) → Prop
  | [], l => l = []
  | (i, t) :: ps, l => ∃ v l', l = (i, v) :: l' ∧ R S t v ∧ PartsR S ps l'

section
variable {P : Program} {S : Sig}

theorem fill_sound {T : TypeId} {place : Nat → Option (Nat × Nat)} : ∀ (ps : List (Nat × SV)) (z v : SV) (l : List (Nat × Value)) (cs : Array Value), fillP P T z ps = some v → PartsR S ps l → z.isA = true → Rf S z cs.toList →
    (∀ i, (match P.underlying T with
      | some (.struct flds) => (flds[i]?).map (fun fl => (fl.offset, P.cellsOf fl.type))
      | some (.array _ e) => some (i * P.cellsOf e, P.cellsOf e)
      | _ => none) = place i) →
    ∃ cs', Instr.fill place cs l = some cs' ∧ Rf S v cs'.toList ∧ v.isA = true
  | [], z, v, l, cs, h, hp, hA, hr, hpl => by
    cases hp
    have : v = z := by cases z <;> simp [fillP] at h <;> exact h.symm
    subst this
    exact ⟨cs, rfl, hr, hA⟩
  | (i, t) :: ps, z, v, l, cs, h, hp, hA, hr, hpl => by
    obtain ⟨x, l', rfl, hx, hp'⟩ := hp
    cases z <;> simp [SV.isA] at hA
    · rename_i fs
      simp only [fillP] at h
      split at h
      · rename_i o old hpre
        split at h
        · rename_i hq
          simp only [Bool.and_eq_true] at hq
          obtain ⟨q1, q2⟩ := hq
          have hsh := same_shp _ _ q2
          have hnt : t.isTup = false := by
            cases t <;> first | rfl | (cases old <;> simp [SV.same] at q2)
          have hx1 := R1_cells (R1_of_R hx hnt)
          have hlx := Rf_len _ _ hx1
          obtain ⟨p1, p2⟩ := pre_off _ _ _ _ hpre
          simp only [Rf] at hr
          obtain ⟨b1, _⟩ := pre_Rfs fs i o old hpre _ hr
          have hsz : old.size = t.size := by rw [← size_shp, ← size_shp, hsh]
          have hplace : place i = some (o, t.size) := by
            rw [← hpl i]
            cases hu : P.underlying T with
            | none => simp [hu] at q1
            | some d =>
              cases d <;> simp [hu] at q1
              · rename_i n e; simp only [Option.some.injEq, Prod.mk.injEq]; exact ⟨q1.1, q1.2⟩
              · rename_i flds
                cases hf : flds[i]? with
                | none => simp [hf] at q1
                | some fl => simp [hf] at q1; simp [hf, q1.1, q1.2]
          have hcs : x.cells.size = t.size := by rw [← hlx]; simp
          have hle : o + x.cells.size ≤ cs.size := by rw [hcs, ← hsz]; simpa using b1
          have hset := set_off fs i old t o _ p1 p2 hsh.symm cs.toList x.cells.toList hr hx1
          obtain ⟨cs', f1, f2, f3⟩ := fill_sound (place := place) ps _ v l' (x.cells.zipIdx.foldl (fun cs (x : Value × Nat) => cs.setIfInBounds (o + x.2) x.1) cs) h hp' rfl
            (by rw [fold_cells o x cs hle]; simp only [Rf]; simpa using hset) hpl
          refine ⟨cs', ?_, f2, f3⟩
          simp only [Instr.fill, hplace]
          rw [if_neg (by simp [hcs]; omega)]
          exact f1
        · simp at h
      · simp at h
    · rename_i k n xs
      cases t <;> (try (simp [fillP] at h; done))
      rename_i k' m
      simp only [fillP] at h
      split at h
      · rename_i hq
        simp at hq
        obtain ⟨q1, q2, q3⟩ := hq
        have := kindEq_eq q2
        subst this
        rw [R_i hx]
        simp only [Rf] at hr
        obtain ⟨hl, hr⟩ := hr
        have hplace : place i = some (i, 1) := by
          rw [← hpl i]
          cases hu : P.underlying T with
          | none => simp [hu] at q1
          | some d =>
            cases d <;> simp [hu] at q1
            rename_i n' e; simp [q1]
        have hsz : cs.size = n := by rw [← hl]; have := congrArg List.length hr; simpa using this
        have hlt : i < n := by simpa using q3
        obtain ⟨cs', f1, f2, f3⟩ := fill_sound (place := place) ps _ v l' ((Value.int k m).cells.zipIdx.foldl (fun cs (x : Value × Nat) => cs.setIfInBounds (i + x.2) x.1) cs) h hp' rfl
          (by
            rw [fold_cells i _ cs (by simp [Value.cells, hsz]; omega)]
            simp only [Rf]
            refine ⟨by simpa using hl, ?_⟩
            rw [hr, List.set_eq_take_append_cons_drop]
            simp [Value.cells, hl, hlt]) hpl
        refine ⟨cs', ?_, f2, f3⟩
        simp only [Instr.fill, hplace]
        rw [if_neg (by simp [Value.cells, hsz]; omega)]
        exact f1
      · simp at h

theorem mapM_info : ∀ (fs : List Field), fs.all (fun f => (P.info? f.type).isSome) = true →
    fs.mapM (fun f => (P.info? f.type).map fun i => (f.offset, i.size)) = some (fs.map fun f => (f.offset, P.cellsOf f.type))
  | [], _ => by simp
  | f :: fs, h => by
    simp at h
    obtain ⟨h1, h2⟩ := h
    cases hi : P.info? f.type with
    | none => simp [hi] at h1
    | some i => simp [List.mapM_cons, hi, mapM_info fs (by simpa using h2), Program.cellsOf]

theorem run_build_at {T : TypeId} {z v : SV} {ps : List (Nat × SV)} {l : List (Nat × Value)} {i0 : TypeInfo} {v0 : Value} {w : World}
    (hi : P.info? T = some i0) (hz : i0.zero = some v0) (hr : R1 S z v0) (hA : z.isA = true) (hb : bldOK P T = true) (hf : fillP P T z ps = some v) (hp : PartsR S ps l) :
    ∃ v', (Instr.build T l.toArray).run P w = .ok v' w ∧ R S v v' := by
  obtain ⟨cs, rfl, hcs⟩ : ∃ cs : Array Value, v0 = .agg cs ∧ Rf S z cs.toList := by
    unfold R1 at hr; simp only [hA] at hr; exact hr
  unfold bldOK at hb
  cases hu : P.underlying T with
  | none => simp [hu] at hb
  | some d =>
    cases d <;> simp only [hu] at hb <;> (try (simp at hb; done))
    · rename_i n e
      cases hie : P.info? e with
      | none => simp [hie] at hb
      | some ie =>
        obtain ⟨cs', f1, f2, f3⟩ := fill_sound (S := S) (P := P) (T := T) (place := fun i => some (i * ie.size, ie.size)) ps z v l cs hf hp hA hcs (by intro i; simp [hu, Program.cellsOf, hie])
        refine ⟨.agg cs', run_build w T _ cs' ?_, ?_⟩
        · simp [Program.built, hi, hu, hz, hie, Value.cells, f1]
        · have := R1_agg f2 f3
          exact R_of_R1 (by simpa using this)
    · rename_i fs
      have hm := mapM_info (P := P) fs.toList hb
      obtain ⟨cs', f1, f2, f3⟩ := fill_sound (S := S) (P := P) (T := T) (place := fun i => (fs.toList.map fun f => (f.offset, P.cellsOf f.type))[i]?) ps z v l cs hf hp hA hcs (by intro i; simp [hu])
      refine ⟨.agg cs', run_build w T _ cs' ?_, ?_⟩
      · simp only [Program.built, hi, hu, hz, hm]
        simp only [Value.cells, List.getElem?_toArray]
        simpa using f1
      · have := R1_agg f2 f3
        exact R_of_R1 (by simpa using this)
end

/-! ### Receivers -/
theorem at_app : ∀ (p : List PStep) (s s' s2 : Shp) (o o2 : Nat) (q : List PStep), s.at p = some (o, s') → s'.at q = some (o2, s2) → s.at (p ++ q) = some (o + o2, s2)
  | [], s, s', s2, o, o2, q, h, h2 => by
    simp [Shp.at] at h; obtain ⟨rfl, rfl⟩ := h
    simpa using h2
  | .f k :: p, s, s', s2, o, o2, q, h, h2 => by
    cases s with
    | nd l =>
      simp only [Shp.at] at h
      simp only [List.cons_append, Shp.at]
      cases ho : l.off k with
      | none => simp [ho] at h
      | some x =>
        obtain ⟨o1, s1⟩ := x
        simp only [ho] at h ⊢
        cases ha : s1.at p with
        | none => simp [ha] at h
        | some y =>
          obtain ⟨o3, s3⟩ := y
          simp [ha] at h; obtain ⟨rfl, rfl⟩ := h
          rw [at_app p s1 _ s2 o3 o2 q ha h2]
          simp; omega
    | _ => simp [Shp.at] at h
  | .x ix :: p, s, s', s2, o, o2, q, h, h2 => by
    cases s with
    | ar k n =>
      cases p with
      | nil =>
        simp only [Shp.at] at h
        split at h
        · rename_i hb
          simp at h; obtain ⟨rfl, rfl⟩ := h
          cases q with
          | nil => simp [Shp.at] at h2; obtain ⟨rfl, rfl⟩ := h2; simp [Shp.at, hb]
          | cons a l => cases a <;> simp [Shp.at] at h2
        · simp at h
      | cons _ _ => simp [Shp.at] at h
    | _ => simp [Shp.at] at h

theorem get_app : ∀ (p q : List PStep) (t u : SV), SV.get t (p ++ q) = some u → ∃ m, SV.get t p = some m ∧ SV.get m q = some u
  | [], q, t, u, h => ⟨t, by simp [SV.get], by simpa using h⟩
  | .f k :: p, q, t, u, h => by
    cases t with
    | agg fs =>
      simp only [List.cons_append, SV.get] at h ⊢
      cases hg : fs.get k with
      | none => simp [hg] at h
      | some a =>
        simp only [hg] at h ⊢
        exact get_app p q a u h
    | _ => simp [SV.get] at h
  | .x ix :: p, q, t, u, h => by
    cases t with
    | arr k n xs =>
      cases p with
      | nil =>
        cases q with
        | nil => exact ⟨u, by simpa using h, by simp [SV.get]⟩
        | cons _ _ => simp [SV.get] at h
      | cons _ _ => simp [SV.get] at h
    | _ => simp [SV.get] at h

theorem zeros_at : ∀ (d : Nat) (t u : SV), SV.get t (List.replicate d (.f 0)) = some u → t.shp.at (List.replicate d (.f 0)) = some (0, u.shp)
  | 0, t, u, h => by simp [SV.get] at h; subst h; simp [Shp.at]
  | d + 1, t, u, h => by
    cases t with
    | agg fs =>
      simp only [List.replicate_succ, SV.get] at h
      cases fs with
      | nil => simp [SVs.get] at h
      | cons a l =>
        simp only [SVs.get] at h
        simp [List.replicate_succ, SV.shp, SVs.shp, Shp.at, Shps.off, zeros_at d a u h]
    | _ => simp [List.replicate_succ, SV.get] at h

theorem ptrsTo_sound {S : Sig} {M : Mem} {w : World} (h : Rep S M w) {v v' : SV} {d : Nat} {x : Value} (hp : ptrsTo M v d = some v') (hr : R S v x) : (∃ a, x = .pointer (some a)) ∧ R S v' x := by
  unfold ptrsTo at hp
  split at hp
  · rename_i b q
    split at hp
    · rename_i t hm
      split at hp
      · rename_i u hg
        simp at hp; subst hp
        obtain ⟨m, h1, h2⟩ := get_app _ _ _ _ hg
        obtain ⟨o, cs, el, rfl, e1, _⟩ := h.addr hr hm h1
        refine ⟨⟨_, rfl⟩, ?_⟩
        show Rf S _ _
        simp only [Rf]
        rw [getM_eq] at hm
        exact ⟨t.shp, o, u.shp, by rw [h.sh]; simp [hm], by simpa using at_app q _ _ _ _ _ _ e1 (zeros_at d m u h2), rfl⟩
      · simp at hp
    · simp at hp
  · simp at hp

end Go.Sx
