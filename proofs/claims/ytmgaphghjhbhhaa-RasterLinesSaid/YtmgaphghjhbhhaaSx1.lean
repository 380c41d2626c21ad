/- Sx1: symbolic values, memories of them, and an evaluator of the model's code over them. Own work; program-independent. -/
import Derived.Tactics
import Derived.LoopN
import Derived.Below
namespace Go.Sx
set_option linter.unusedVariables false
set_option linter.unusedSimpArgs false

inductive PStep where
  | f (k : Nat)
  | x (i : Int)

mutual
inductive SV : Type where
  | b (x : Bool)
  | i (k : IntKind) (n : Int)
  | ptr (blk : Nat) (p : List PStep)
  | cptr (t : SV)
  | nilp
  | fn (f : FuncId)
  | ifc (t : TypeId) (v : SV)
  | nili
  | nilf
  | agg (fs : SVs)
  | arr (k : IntKind) (n : Nat) (xs : List Int)
  | sl (blk : Nat) (p : List PStep) (off len cap : Nat)
  | roi (k : IntKind) (xs : List Int)
  | ros (n : Nat) (g : Nat → SV)
  | nils
  | tup (vs : SVs)
inductive SVs : Type where
  | nil
  | cons (a : SV) (l : SVs)
end

instance : Inhabited SV := ⟨.nilp⟩

def SVs.get : SVs → Nat → Option SV
  | .nil, _ => none
  | .cons a _, 0 => some a
  | .cons _ l, n + 1 => l.get n

def SVs.set : SVs → Nat → SV → SVs
  | .nil, _, _ => .nil
  | .cons _ l, 0, v => .cons v l
  | .cons a l, n + 1, v => .cons a (l.set n v)

def SVs.ofList : List SV → SVs
  | [] => .nil
  | a :: l => .cons a (SVs.ofList l)

mutual
def SV.size : SV → Nat
  | .agg fs => fs.size
  | .arr _ n _ => n
  | _ => 1
def SVs.size : SVs → Nat
  | .nil => 0
  | .cons a l => a.size + l.size
end

/-- Is it a struct's or an array's value? -/
def SV.isA : SV → Bool
  | .agg _ => true
  | .arr .. => true
  | _ => false

def SV.isTup : SV → Bool
  | .tup _ => true
  | _ => false

def kindEq : IntKind → IntKind → Bool
  | .i8, .i8 | .i16, .i16 | .i32, .i32 | .i64, .i64 | .u8, .u8 | .u16, .u16 | .u32, .u32 | .u64, .u64 => true
  | _, _ => false

/-- The cells ahead of field k, and the field. -/
def SVs.pre : SVs → Nat → Option (Nat × SV)
  | .nil, _ => none
  | .cons a _, 0 => some (0, a)
  | .cons a l, k + 1 => match l.pre k with
    | some (o, t) => some (a.size + o, t)
    | none => none

mutual
def SV.same : SV → SV → Bool
  | .agg u, .agg v => u.same v
  | .arr k n _, .arr k' n' _ => kindEq k k' && Nat.beq n n'
  | .agg _, _ => false
  | .arr .., _ => false
  | .tup _, _ => false
  | _, .agg _ => false
  | _, .arr .. => false
  | _, .tup _ => false
  | _, _ => true
def SVs.same : SVs → SVs → Bool
  | .nil, .nil => true
  | .cons u l, .cons v m => u.same v && l.same m
  | _, _ => false
end

def SV.get : SV → List PStep → Option SV
  | t, [] => some t
  | .agg fs, .f k :: p => match fs.get k with
    | some a => SV.get a p
    | none => none
  | .arr k _ xs, [.x ix] => some (.i k (xs.getD ix.toNat 0))
  | _, _ => none

def SV.put : SV → List PStep → SV → Option SV
  | t, [], v => match t.same v with
    | true => some v
    | false => none
  | .agg fs, .f k :: p, v => match fs.get k with
    | some a => match SV.put a p v with
      | some a' => some (.agg (fs.set k a'))
      | none => none
    | none => none
  | .arr k n xs, [.x ix], .i k' m => match kindEq k k' with
    | true => some (.arr k n (xs.set ix.toNat m))
    | false => none
  | _, _, _ => none

/-! ### Arithmetic, under names -/
def iand (k : IntKind) (x y : Int) : Int := k.wrap (BitVec.ofInt k.bits x &&& BitVec.ofInt k.bits y).toNat
def ior (k : IntKind) (x y : Int) : Int := k.wrap (BitVec.ofInt k.bits x ||| BitVec.ofInt k.bits y).toNat
def ixor (k : IntKind) (x y : Int) : Int := k.wrap (BitVec.ofInt k.bits x ^^^ BitVec.ofInt k.bits y).toNat
def iandn (k : IntKind) (x y : Int) : Int := k.wrap (BitVec.ofInt k.bits x &&& ~~~BitVec.ofInt k.bits y).toNat
def ishl (k : IntKind) (x y : Int) : Int := k.wrap (x * 2 ^ (min y.toNat k.bits))
def ishr (k : IntKind) (x y : Int) : Int := x.fdiv (2 ^ (min y.toNat k.bits))

/-! ### What a program says of its types -/
def aggT (P : Program) (t : TypeId) : Option Bool :=
  match P.underlying t with
  | some (.struct _) => some true
  | some (.array _ _) => some true
  | some _ => some false
  | none => none

def ldOK (P : Program) (T : TypeId) (t : SV) : Bool :=
  match aggT P T with
  | some true => t.isA && (Nat.beq t.size (P.cellsOf T) && !Nat.beq t.size 0)
  | some false => !t.isA && !t.isTup
  | none => false

/-- The place and the size of a field, by the type. -/
def fOff (P : Program) (T : TypeId) (f : Nat) : Option (Nat × TypeId) :=
  match P.underlying T with
  | some (.struct fs) => match fs[f]? with
    | some fl => some (fl.offset, fl.type)
    | none => none
  | _ => none

/-! ### Equality of two values, by the type -/
def intKindOf (P : Program) (T : TypeId) : Option IntKind :=
  match P.underlying T with
  | some (.int k) => some k
  | _ => none

/-- The fields one by one, by an equality of parts. -/
def eqF (P : Program) (eq : TypeId → SV → SV → Option Bool) : List Field → Nat → SVs → SVs → Option Bool
  | [], _, .nil, .nil => some true
  | f :: fl, o, .cons x xs, .cons y ys =>
    match Nat.beq f.offset o && (Nat.beq (P.cellsOf f.type) x.size && (Nat.beq x.size y.size && (ldOK P f.type x && ldOK P f.type y))), decide (f.name = "_") with
    | true, false => match eq f.type x y, eqF P eq fl (o + x.size) xs ys with
      | some p, some q => some (p && q)
      | _, _ => none
    | _, _ => none
  | _, _, _, _ => none
/-- Equality by the type: none where it is not told. (Fuel: the types' depth.) -/
def eqT (P : Program) : Nat → TypeId → SV → SV → Option Bool
  | 0, _, _, _ => none
  | d + 1, T, x, y =>
    match P.underlying T with
    | some .bool => match x, y with
      | .b p, .b q => some (p == q)
      | _, _ => none
    | some (.int _) => match x, y with
      | .i k m, .i k' n => match kindEq k k' with
        | true => some (m == n)
        | false => none
      | _, _ => none
    | some (.struct fs) => match P.stoodInHeld T with
      | true => none
      | false => match x, y with
        | .agg xs, .agg ys => eqF P (eqT P d) fs.toList 0 xs ys
        | _, _ => none
    | some (.array n e) => match x, y with
      | .arr k m xs, .arr k' m' ys =>
        match kindEq k k' && (Nat.beq n m && (Nat.beq n m' && Nat.beq (P.cellsOf e) 1)), P.underlying e with
        | true, some (.int _) => some (decide (xs = ys))
        | _, _ => none
      | _, _ => none
    | _ => none

/-! ### The frame -/
inductive Sl where
  | v (x : SV)
  | opt (s : Tmp) (w : Bool) (x : SV)

def lookE : List (Tmp × SV) → Tmp → Option SV
  | [], _ => none
  | (s, v) :: l, t => match Nat.beq s t with
    | true => some v
    | false => lookE l t

def lookL : List (Tmp × Sl) → Tmp → Option Sl
  | [], _ => none
  | (s, v) :: l, t => match Nat.beq s t with
    | true => some v
    | false => lookL l t

def inCh : List (Tmp × Bool) → Tmp → Bool → Bool
  | [], _, _ => false
  | (s, w) :: l, t, u => (Nat.beq s t && (w == u)) || inCh l t u

def slotV (ch : List (Tmp × Bool)) : Sl → Option SV
  | .v x => some x
  | .opt s w x => match inCh ch s w with
    | true => some x
    | false => none

def evT (env : List (Tmp × SV)) (loc : List (Tmp × Sl)) (ch : List (Tmp × Bool)) (t : Tmp) : Option SV :=
  match lookL loc t with
  | some s => slotV ch s
  | none => lookE env t

def ofConst : Value → Option SV
  | .bool x => some (.b x)
  | .int k n => some (.i k n)
  | .pointer none => some .nilp
  | .nilIface => some .nili
  | .slice none 0 0 => some .nils
  | _ => none

def evO (glob : Nat → Option SV) (env : List (Tmp × SV)) (loc : List (Tmp × Sl)) (ch : List (Tmp × Bool)) : Operand → Option SV
  | .tmp t => evT env loc ch t
  | .const v => ofConst v
  | .global g => match glob g with
    | some t => some (.cptr t)
    | none => none
  | .func f => some (.fn f)

/-- The guards ahead of a guard's slot. -/
def chain (loc : List (Tmp × Sl)) : Nat → Tmp → List (Tmp × Bool)
  | 0, _ => []
  | n + 1, s => match lookL loc s with
    | some (.opt s' w' _) => (s', w') :: chain loc n s'
    | _ => []

/-- The guards' own value: all of them. -/
def guardB (env : List (Tmp × SV)) (loc : List (Tmp × Sl)) : List (Tmp × Bool) → Option Bool
  | [] => some true
  | (s, w) :: l => match evT env loc l s, guardB env loc l with
    | some (.b x), some r => some (match w with
      | true => x && r
      | false => !x && r)
    | _, _ => none

def evAll (ev : Operand → Option SV) : List Operand → Option (List SV)
  | [] => some []
  | o :: l => match ev o, evAll ev l with
    | some v, some vs => some (v :: vs)
    | _, _ => none

/-! ### The operations -/
abbrev Mem := List SV
abbrev CallT := FuncId → List SV → Mem → (SV → Mem → Prop) → Prop

def setM : Mem → Nat → SV → Mem
  | [], _, _ => []
  | _ :: l, 0, v => v :: l
  | a :: l, n + 1, v => a :: setM l n v

def getM : Mem → Nat → Option SV
  | [], _ => none
  | a :: _, 0 => some a
  | _ :: l, n + 1 => getM l n

def onB (x : Bool) (K : Prop) : Prop := match x with
  | true => K
  | false => False

def ptrT (P : Program) (T : TypeId) : Bool :=
  match P.underlying T with
  | some (.pointer _) => true
  | _ => false

def binK (P : Program) (op : BinOp) (T : TypeId) (a b : SV) (K : SV → Prop) : Prop :=
  match op with
  | .add => match a, b with
    | .i k x, .i k' y => onB (kindEq k k') (K (.i k (k.wrap (x + y))))
    | _, _ => False
  | .sub => match a, b with
    | .i k x, .i k' y => onB (kindEq k k') (K (.i k (k.wrap (x - y))))
    | _, _ => False
  | .mul => match a, b with
    | .i k x, .i k' y => onB (kindEq k k') (K (.i k (k.wrap (x * y))))
    | _, _ => False
  | .quo => match a, b with
    | .i k x, .i k' y => onB (kindEq k k') (onB (!decide (y = 0)) (K (.i k (k.wrap (x.tdiv y)))))
    | _, _ => False
  | .rem => match a, b with
    | .i k x, .i k' y => onB (kindEq k k') (onB (!decide (y = 0)) (K (.i k (x.tmod y))))
    | _, _ => False
  | .and => match a, b with
    | .i k x, .i k' y => onB (kindEq k k') (K (.i k (iand k x y)))
    | _, _ => False
  | .or => match a, b with
    | .i k x, .i k' y => onB (kindEq k k') (K (.i k (ior k x y)))
    | _, _ => False
  | .xor => match a, b with
    | .i k x, .i k' y => onB (kindEq k k') (K (.i k (ixor k x y)))
    | _, _ => False
  | .andNot => match a, b with
    | .i k x, .i k' y => onB (kindEq k k') (K (.i k (iandn k x y)))
    | _, _ => False
  | .shl => match a, b with
    | .i k x, .i _ y => onB (!decide (y < 0)) (K (.i k (ishl k x y)))
    | _, _ => False
  | .shr => match a, b with
    | .i k x, .i _ y => onB (!decide (y < 0)) (K (.i k (ishr k x y)))
    | _, _ => False
  | .lss => match a, b with
    | .i k x, .i k' y => onB (kindEq k k') (K (.b (decide (x < y))))
    | _, _ => False
  | .leq => match a, b with
    | .i k x, .i k' y => onB (kindEq k k') (K (.b (decide (x ≤ y))))
    | _, _ => False
  | .gtr => match a, b with
    | .i k x, .i k' y => onB (kindEq k k') (K (.b (decide (y < x))))
    | _, _ => False
  | .geq => match a, b with
    | .i k x, .i k' y => onB (kindEq k k') (K (.b (decide (y ≤ x))))
    | _, _ => False
  | .eql => match a, b with
    | .i k x, .i k' y => onB (kindEq k k') (K (.b (x == y)))
    | .agg _, .agg _ => match P.eqGuardType P.depth T, eqT P 30 T a b with
      | false, some r => K (.b r)
      | _, _ => False
    | .arr .., .arr .. => match P.eqGuardType P.depth T, eqT P 30 T a b with
      | false, some r => K (.b r)
      | _, _ => False
    | .b _, .b _ => match eqT P 30 T a b with
      | some r => K (.b r)
      | none => False
    | .nilp, .nilp => onB (ptrT P T) (K (.b true))
    | .ptr .., .nilp => onB (ptrT P T) (K (.b false))
    | .cptr _, .nilp => onB (ptrT P T) (K (.b false))
    | _, _ => False
  | .neq => match a, b with
    | .i k x, .i k' y => onB (kindEq k k') (K (.b (x != y)))
    | .agg _, .agg _ => match P.eqGuardType P.depth T, eqT P 30 T a b with
      | false, some r => K (.b (!r))
      | _, _ => False
    | .arr .., .arr .. => match P.eqGuardType P.depth T, eqT P 30 T a b with
      | false, some r => K (.b (!r))
      | _, _ => False
    | .b _, .b _ => match eqT P 30 T a b with
      | some r => K (.b (!r))
      | none => False
    | .nilp, .nilp => onB (ptrT P T) (K (.b false))
    | .ptr .., .nilp => onB (ptrT P T) (K (.b true))
    | .cptr _, .nilp => onB (ptrT P T) (K (.b true))
    | _, _ => False

def unK (op : UnOp) (a : SV) (K : SV → Prop) : Prop :=
  match op with
  | .neg => match a with
    | .i k n => K (.i k (k.wrap (0 - n)))
    | _ => False
  | .xor => match a with
    | .i k n => K (.i k (ixor k (match k.signed with
      | true => -1
      | false => k.max) n))
    | _ => False
  | .not => match a with
    | .b x => K (.b (!x))
    | _ => False
  | .plus => False

/-- An array by the type: its length, its element's kind (an element is one cell). -/
def arrT (P : Program) (T : TypeId) : Option (Nat × TypeId) :=
  match P.underlying T with
  | some (.array n e) => some (n, e)
  | _ => none

def sliT (P : Program) (T : TypeId) : Option TypeId :=
  match P.underlying T with
  | some (.slice e) => some e
  | _ => none

def fieldK (P : Program) (T : TypeId) (f : Nat) (t : SV) (K : SV → Prop) : Prop :=
  match t with
  | .agg fs => match fOff P T f, fs.pre f with
    | some (o, ft), some (o', a) => onB (Nat.beq o o' && (Nat.beq (P.cellsOf ft) a.size && !Nat.beq a.size 0)) (K a)
    | _, _ => False
  | _ => False

def inB (i : Int) (n : Nat) : Bool := decide (0 ≤ i) && decide (i < n)

def pickK (x : Bool) (a b : SV) (K : SV → Prop) : Prop :=
  match a, b with
  | .b p, .b q => K (.b (cond x p q))
  | .i k p, .i k' q => onB (kindEq k k') (K (.i k (cond x p q)))
  | _, _ => match x with
    | true => K a
    | false => K b


/-! ### Which values lead where -/
mutual
/-- Every own block that the value names lies below n. -/
def SV.cl (n : Nat) : SV → Bool
  | .ptr blk _ => Nat.blt blk n
  | .sl blk _ _ _ _ => Nat.blt blk n
  | .ifc _ v => v.cl n
  | .agg fs => fs.cl n
  | .tup vs => vs.cl n
  | _ => true
def SVs.cl (n : Nat) : SVs → Bool
  | .nil => true
  | .cons a l => a.cl n && l.cl n
end
mutual
/-- No pointer and no slice but nil. -/
def SV.dat : SV → Bool
  | .ptr .. => false
  | .cptr _ => false
  | .sl .. => false
  | .roi .. => false
  | .ros .. => false
  | .ifc _ v => v.dat
  | .agg fs => fs.dat
  | .tup vs => vs.dat
  | _ => true
def SVs.dat : SVs → Bool
  | .nil => true
  | .cons a l => a.dat && l.dat
end
def clAll (n : Nat) : List SV → Bool
  | [] => true
  | v :: l => v.cl n && clAll n l

inductive Con where
  /-- reads no memory of the caller's, writes none: the arguments alone -/
  | pure (pre : List SV → Prop) (f : List SV → Option SV)
  /-- works on the block that its first argument points to -/
  | mth (pt : SV → List SV → (SV → SV → Prop) → Prop)

structure St where
  env : List (Tmp × SV)
  mem : Mem

abbrev Kont := Exit → St → Prop

/-- What is known of a loop: from a state at its head (some slots, some blocks) to its ends. -/
structure LCon where
  keep : List Tmp
  pt : St → Kont → Prop

structure Env where
  P : Program
  zero : TypeId → Option SV
  glob : Nat → Option SV
  meth : TypeId → String → Option (FuncId × Nat)
  gam : FuncId → Option Con
  loop : FuncId → Nat → Option LCon

def fillP (P : Program) (T : TypeId) : SV → List (Nat × SV) → Option SV
  | z, [] => some z
  | .agg fs, (i, v) :: l => match fs.pre i with
    | some (o, old) => match (match P.underlying T with
        | some (.struct flds) => (match flds[i]? with
          | some fl => Nat.beq fl.offset o && Nat.beq (P.cellsOf fl.type) v.size
          | none => false)
        | some (.array _ e) => Nat.beq (i * P.cellsOf e) o && Nat.beq (P.cellsOf e) v.size
        | _ => false) && (old.same v) with
      | true => fillP P T (.agg (fs.set i v)) l
      | false => none
    | none => none
  | .arr k n xs, (i, .i k' m) :: l => match (match P.underlying T with
        | some (.array _ e) => Nat.beq (P.cellsOf e) 1
        | _ => false) && (kindEq k k' && Nat.blt i n) with
    | true => fillP P T (.arr k n (xs.set i m)) l
    | false => none
  | _, _ => none

def evParts (ev : Operand → Option SV) : List (Nat × Operand) → Option (List (Nat × SV))
  | [] => some []
  | (i, o) :: l => match ev o, evParts ev l with
    | some v, some vs => some ((i, v) :: vs)
    | _, _ => none

def okF (P : Program) (f : FuncId) : Bool :=
  match P.funcs[f]? with
  | some fn => !(fn.name == "runtime.NumGoroutine") && fn.body.isSome
  | none => false

/-- A place in memory read as a value of a type. -/
def loadK (P : Program) (T : TypeId) (p : SV) (M : Mem) (K : SV → Prop) : Prop :=
  match p with
  | .ptr b p => match getM M b with
    | some t => match SV.get t p with
      | some v => onB (ldOK P T v) (K v)
      | none => False
    | none => False
  | .cptr v => onB (ldOK P T v) (K v)
  | _ => False

def storeK (P : Program) (T : TypeId) (p v : SV) (M : Mem) (K : Mem → Prop) : Prop :=
  match p with
  | .ptr b p => match getM M b with
    | some t => match SV.put t p v with
      | some t' => onB (Nat.beq v.size (P.cellsOf T) && (!Nat.beq v.size 0 && !v.isTup)) (K (setM M b t'))
      | none => False
    | none => False
  | _ => False

def fieldAddrK (P : Program) (T : TypeId) (f : Nat) (p : SV) (M : Mem) (K : SV → Prop) : Prop :=
  match p with
  | .ptr b p => match getM M b with
    | some t => match SV.get t p with
      | some v => fieldK P T f v (fun _ => K (.ptr b (p ++ [.f f])))
      | none => False
    | none => False
  | .cptr v => fieldK P T f v (fun a => K (.cptr a))
  | _ => False

/-- An element of an array's value. -/
def elemK (P : Program) (T : TypeId) (t : SV) (ix : Int) (K : PStep → SV → Prop) : Prop :=
  match arrT P T with
  | some (n, e) => match t with
    | .arr k m xs => onB (Nat.beq n m && Nat.beq (P.cellsOf e) 1) (onB (inB ix n) (K (.x ix) (.i k (xs.getD ix.toNat 0))))
    | .agg fs => onB (inB ix n) (match fs.pre ix.toNat with
      | some (o, a) => onB (Nat.beq o (ix.toNat * P.cellsOf e) && (Nat.beq a.size (P.cellsOf e) && !Nat.beq a.size 0)) (K (.f ix.toNat) a)
      | none => False)
    | _ => False
  | none => False

def indexAddrK (P : Program) (T : TypeId) (p : SV) (ix : SV) (M : Mem) (K : SV → Prop) : Prop :=
  match ix with
  | .i _ n => match p with
    | .ptr b p => match getM M b with
      | some t => match SV.get t p with
        | some v => elemK P T v n (fun s _ => K (.ptr b (p ++ [s])))
        | none => False
      | none => False
    | .cptr v => elemK P T v n (fun _ a => K (.cptr a))
    | .sl b p off len _ => match sliT P T with
      | some e => onB (Nat.beq (P.cellsOf e) 1) (onB (inB n len) (K (.ptr b (p ++ [.x (Int.ofNat off + n)]))))
      | none => False
    | .roi k xs => match sliT P T with
      | some e => onB (Nat.beq (P.cellsOf e) 1) (onB (inB n xs.length) (K (.cptr (.i k (xs.getD n.toNat 0)))))
      | none => False
    | .ros m g => match sliT P T with
      | some e => onB (inB n m) (onB (Nat.beq (g n.toNat).size (P.cellsOf e) && !Nat.beq (P.cellsOf e) 0) (K (.cptr (g n.toNat))))
      | none => False
    | _ => False
  | _ => False

def indexK (P : Program) (T : TypeId) (t ix : SV) (K : SV → Prop) : Prop :=
  match ix with
  | .i _ n => elemK P T t n (fun _ a => match arrT P T with
      | some (_, e) => onB (ldOK P e a) (K a)
      | none => False)
  | _ => False

def ptrsTo (M : Mem) (v : SV) (d : Nat) : Option SV :=
  match v with
  | .ptr b q => match getM M b with
    | some t => match SV.get t (q ++ List.replicate d (.f 0)) with
      | some _ => some (.ptr b (q ++ List.replicate d (.f 0)))
      | none => none
    | none => none
  | _ => none

def bldOK (P : Program) (T : TypeId) : Bool :=
  match P.underlying T with
  | some (.struct fs) => fs.toList.all (fun f => (P.info? f.type).isSome)
  | some (.array _ e) => (P.info? e).isSome
  | _ => false

def minAll (lt : Int → Int → Bool) (k : IntKind) : Int → List SV → Option SV
  | x, [] => some (.i k x)
  | x, .i k' y :: l => match kindEq k k' with
    | true => minAll lt k (cond (lt y x) y x) l
    | false => none
  | _, _ => none

def builtinK (P : Program) (b : Builtin) (argTypes : Array TypeId) (args : List SV) (M : Mem) (K : SV → Mem → Prop) : Prop :=
  match b with
  | .len => match args, argTypes[0]? with
    | [x], some t => match P.underlying t with
      | some (.slice _) => match x with
        | .sl _ _ _ len _ => K (.i .i64 len) M
        | .roi _ xs => K (.i .i64 xs.length) M
        | .ros n _ => K (.i .i64 n) M
        | .nils => K (.i .i64 0) M
        | _ => False
      | some (.array n _) => K (.i .i64 n) M
      | _ => False
    | _, _ => False
  | .min => match args with
    | .i k x :: l => match minAll (fun y x => decide (y < x)) k x l with
      | some v => K v M
      | none => False
    | _ => False
  | .max => match args with
    | .i k x :: l => match minAll (fun y x => decide (x < y)) k x l with
      | some v => K v M
      | none => False
    | _ => False
  | _ => False

def callK (E : Env) (call : CallT) (c : Call) (ev : Operand → Option SV) (M : Mem) (K : SV → Mem → Prop) : Prop :=
  match evAll ev c.args.toList with
  | none => False
  | some args => match c.callee with
    | .value f => match ev f with
      | some (.fn g) => onB (okF E.P g) (call g args M K)
      | _ => False
    | .invoke r name => match ev r with
      | some (.ifc t v) => match E.meth t name with
        | some (g, d) => match ptrsTo M v d with
          | some v' => onB (okF E.P g) (call g (v' :: args) M K)
          | none => False
        | none => False
      | _ => False
    | .builtin b => builtinK E.P b c.argTypes args M K

def opK (E : Env) (call : CallT) (o : Oper) (ev : Operand → Option SV) (M : Mem) (K : SV → Mem → Prop) : Prop :=
  match o.op with
  | .move x => match ev x with
    | some v => K v M
    | none => False
  | .assign x => match ev x with
    | some v => K v M
    | none => False
  | .alloc T => match E.zero T with
    | some z => K (.ptr M.length []) (M ++ [z])
    | none => False
  | .box _ x => match ev x with
    | some v => onB (!v.isTup) (K (.ptr M.length []) (M ++ [v]))
    | none => False
  | .build T parts => match E.zero T, evParts ev parts.toList with
    | some z, some ps => match z.isA && bldOK E.P T, fillP E.P T z ps with
      | true, some v => K v M
      | _, _ => False
    | _, _ => False
  | .load T x => match ev x with
    | some p => loadK E.P T p M (fun v => K v M)
    | none => False
  | .store T x y => match o.dst, ev x, ev y with
    | none, some p, some v => storeK E.P T p v M (fun M' => K (.b false) M')
    | _, _, _ => False
  | .nilCheck x => match ev x with
    | some (.ptr b p) => K (.ptr b p) M
    | some (.cptr t) => K (.cptr t) M
    | some (.fn f) => K (.fn f) M
    | some (.ifc t v) => K (.ifc t v) M
    | _ => False
  | .binOp op T x y _ => match ev x, ev y with
    | some a, some b => binK E.P op T a b (fun v => K v M)
    | _, _ => False
  | .unOp op _ x => match ev x with
    | some a => unK op a (fun v => K v M)
    | none => False
  | .convert s d x => match ev x with
    | some (.i _ n) => match intKindOf E.P s, intKindOf E.P d with
      | some _, some k => K (.i k (k.wrap n)) M
      | _, _ => False
    | _ => False
  | .makeInterface T x => match ev x with
    | some v => match E.P.underlying T with
      | some (.interface _) => False
      | some _ => onB (!v.isA && !v.isTup) (K (.ifc T v) M)
      | none => False
    | none => False
  | .fieldAddr T x f => match ev x with
    | some p => fieldAddrK E.P T f p M (fun v => K v M)
    | none => False
  | .field T x f => match ev x with
    | some t => fieldK E.P T f t (fun v => match fOff E.P T f with
      | some (_, ft) => onB (ldOK E.P ft v) (K v M)
      | none => False)
    | none => False
  | .indexAddr T x ix => match ev x, ev ix with
    | some p, some n => indexAddrK E.P T p n M (fun v => K v M)
    | _, _ => False
  | .index T x ix => match ev x, ev ix with
    | some t, some n => indexK E.P T t n (fun v => K v M)
    | _, _ => False
  | .extract x n => match ev x with
    | some (.tup vs) => match vs.get n with
      | some v => onB (!v.isTup) (K v M)
      | none => False
    | _ => False
  | .call c => callK E call c ev M K
  | _ => False

/-- May an operation be reckoned though its guard may be false? -/
def quiet : Op → Bool
  | .move _ => true
  | .load .. => true
  | .binOp .. => true
  | .unOp .. => true
  | .convert .. => true
  | .fieldAddr .. => true
  | .field .. => true
  | .nilCheck _ => true
  | .extract .. => true
  | .pick .. => true
  | _ => false

def fresh : List (Tmp × Sl) → Tmp → Bool
  | [], _ => true
  | (s, _) :: l, t => !Nat.beq s t && fresh l t

def putL (nt : Nat) (loc : List (Tmp × Sl)) (d : Option Tmp) (s : Sl) (K : List (Tmp × Sl) → Prop) : Prop :=
  match d with
  | none => K loc
  | some t => onB (fresh loc t && Nat.blt t nt) (K ((t, s) :: loc))

/-- One operation whose operands are read under a chain of guards. -/
def stepK (E : Env) (call : CallT) (o : Oper) (env : List (Tmp × SV)) (loc : List (Tmp × Sl)) (ch : List (Tmp × Bool)) (M : Mem) (K : SV → Mem → Prop) : Prop :=
  match o.op with
  | .pick (.tmp s) x y => match evT env loc ch s, evO E.glob env loc ((s, true) :: ch) x, evO E.glob env loc ((s, false) :: ch) y with
    | some (.b c), some a, some b => match x, y with
      | .const (.bool true), _ => (match b with
        | .b q => K (.b (c || q)) M
        | _ => pickK c a b (fun v => K v M))
      | _, .const (.bool false) => (match a with
        | .b p => K (.b (c && p)) M
        | _ => pickK c a b (fun v => K v M))
      | _, _ => pickK c a b (fun v => K v M)
    | _, _, _ => False
  | _ => opK E call o (evO E.glob env loc ch) M K

def dflt (E : Env) (t : TypeId) : SV := (E.zero t).getD (.b false)

def regK (E : Env) (call : CallT) (nt : Nat) (ops : Array Oper) : List Oper → List (Tmp × Sl) → List (Tmp × SV) → Mem → (List (Tmp × Sl) → Mem → Prop) → Prop
  | [], loc, _, M, K => K loc M
  | o :: rest, loc, env, M, K =>
    match o.guard with
    | none => stepK E call o env loc [] M (fun v M' => putL nt loc o.dst (.v v) (fun loc' => regK E call nt ops rest loc' env M' K))
    | some (j, w) => match (ops[j]?).bind (·.dst) with
      | none => False
      | some s => match fresh loc s with
        | true => False
        | false => match quiet o.op with
          | true => stepK E call o env loc ((s, w) :: chain loc 8 s) M (fun v M' => putL nt loc o.dst (.opt s w v) (fun loc' => regK E call nt ops rest loc' env M' K))
          | false => match guardB env loc ((s, w) :: chain loc 8 s) with
            | none => False
            | some true => stepK E call o env loc ((s, w) :: chain loc 8 s) M (fun v M' => putL nt loc o.dst (.opt s w v) (fun loc' => regK E call nt ops rest loc' env M' K))
            | some false => putL nt loc o.dst (.opt s w (dflt E o.type)) (fun loc' => regK E call nt ops rest loc' env M K)

def flush : List (Tmp × Sl) → List (Tmp × SV) → List (Tmp × SV)
  | [], env => env
  | (t, .v x) :: l, env => (t, x) :: flush l env
  | (_, .opt ..) :: l, env => flush l env

/-- The slots that a region has written under a guard are lost behind it. -/
def noOpt : List (Tmp × Sl) → List (Tmp × SV) → Bool
  | [], _ => true
  | (_, .v _) :: l, env => noOpt l env
  | (t, .opt ..) :: l, env => (lookE (flush l env) t).isNone && noOpt l env

def keepE (env : List (Tmp × SV)) : List Tmp → Option (List (Tmp × SV))
  | [] => some []
  | t :: l => match lookE env t, keepE env l with
    | some v, some r => some ((t, v) :: r)
    | _, _ => none

def clE (n : Nat) : List (Tmp × SV) → Bool
  | [] => true
  | (_, v) :: l => v.cl n && clE n l

/-- A state at a loop's head: some slots alone, some blocks alone. -/
def normSt (keep : List Tmp) (n : Nat) (st : St) : Option St :=
  match keepE st.env keep with
  | some e => match clE n e && clAll n (st.mem.take n) with
    | true => some ⟨e, st.mem.take n⟩
    | false => none
  | none => none


def rounds (body : St → Kont → Prop) (K : Kont) : Nat → St → Prop
  | 0, _ => False
  | n + 1, st => body st (fun e st' => match e with
    | .normal => rounds body K n st'
    | e => K e st')

def roundsN (keep : List Tmp) (m : Nat) (body : St → Kont → Prop) (K : Kont) : Nat → St → Prop
  | 0, _ => False
  | n + 1, st => body st (fun e st' => match normSt keep m st' with
    | some s => (match e with
      | .normal => roundsN keep m body K n s
      | e => K e s)
    | none => False)

/-! ### Regions whose order is open: the text's order, where no other one differs -/
def tmpsOf : List Operand → List Tmp
  | [] => []
  | .tmp t :: l => t :: tmpsOf l
  | _ :: l => tmpsOf l

def memT : List Tmp → Tmp → Bool
  | [], _ => false
  | s :: l, t => Nat.beq s t || memT l t

def isStore : Op → Bool
  | .store .. => true
  | _ => false

def anc (ops : Array Oper) (p j : Nat) : Bool := ((Region.before ops).getD j 0).testBit p

/-- What op j looks at that op p writes, p is ahead of j; no slot is written twice; stores are in order. -/
def pairOK (ops : Array Oper) (p j : Nat) : Bool :=
  match ops[p]?, ops[j]? with
  | some a, some b =>
    (match a.dst with
      | none => true
      | some t => (Nat.beq p j || (match b.dst with
          | some u => !Nat.beq t u
          | none => true)) &&
        (!(memT (tmpsOf b.op.operands.toList) t || (match b.guard with
          | some (g, _) => Nat.beq g p
          | none => false)) || (anc ops p j && Nat.blt p j))) &&
    (!(isStore a.op && isStore b.op && Nat.blt p j) || anc ops p j)
  | _, _ => false

def allN (f : Nat → Bool) : Nat → Bool
  | 0 => true
  | n + 1 => f n && allN f n

def drOK (ops : Array Oper) : Bool := allN (fun j => Nat.blt ((Region.before ops).getD j 0) (2 ^ j) && allN (fun p => pairOK ops p j) ops.size) ops.size

def foot (op : Op) (ev : Operand → Option SV) : Option (Nat × List PStep) :=
  match op with
  | .load _ x => match ev x with
    | some (.ptr b p) => some (b, p)
    | _ => none
  | .fieldAddr _ x _ => match ev x with
    | some (.ptr b p) => some (b, p)
    | _ => none
  | .indexAddr _ x _ => match ev x with
    | some (.ptr b p) => some (b, p)
    | _ => none
  | _ => none

def diverge : List PStep → List PStep → Bool
  | .f k :: p, .f l :: q => !Nat.beq k l || diverge p q
  | _, _ => false

abbrev Foot := Nat × Nat × List PStep

def disjAll (ops : Array Oper) : List Foot → List Foot → Bool
  | [], _ => true
  | (i, b, p) :: l, wr => (wr.all fun x => anc ops i x.1 || (anc ops x.1 i || (!Nat.beq b x.2.1 || diverge p x.2.2))) && disjAll ops l wr

def noCall : CallT := fun _ _ _ _ => False

/-- A call of a function that is known as a function of its arguments. -/
def callD (E : Env) (c : Call) (ev : Operand → Option SV) (M : Mem) (K : SV → Prop) : Prop :=
  match evAll ev c.args.toList with
  | none => False
  | some args => match c.callee with
    | .value f => match ev f with
      | some (.fn g) => match E.gam g with
        | some (.pure pre f) => match f args with
          | some r => onB (okF E.P g && clAll 0 args) (pre args ∧ K r)
          | none => False
        | _ => False
      | _ => False
    | .invoke .. => False
    | .builtin b => builtinK E.P b c.argTypes args M (fun v _ => K v)

def plainOp : Op → Bool
  | .assign _ => true
  | .index .. => true
  | .indexAddr .. => true
  | .build .. => true
  | .makeInterface .. => true
  | o => quiet o

/-- One operation of such a region (no store). -/
def stepD (E : Env) (o : Oper) (env : List (Tmp × SV)) (loc : List (Tmp × Sl)) (ch : List (Tmp × Bool)) (M : Mem) (K : SV → Prop) : Prop :=
  match o.op with
  | .call c => callD E c (evO E.glob env loc ch) M K
  | op => onB (plainOp op) (stepK E noCall o env loc ch M (fun v _ => K v))

def addFoot (j : Nat) (f : Option (Nat × List PStep)) (rd : List Foot) : List Foot :=
  match f with
  | some (b, p) => (j, b, p) :: rd
  | none => rd

def regDK (E : Env) (nt : Nat) (ops : Array Oper) : List Oper → Nat → List (Tmp × Sl) → List (Tmp × SV) → Mem → List Foot → List Foot → (List (Tmp × Sl) → Mem → Prop) → Prop
  | [], _, loc, _, M, rd, wr, K => onB (disjAll ops rd wr) (K loc M)
  | o :: rest, j, loc, env, M, rd, wr, K =>
    match isStore o.op with
    | true => (match o.op, o.guard, o.dst with
      | .store T x y, none, none => (match evO E.glob env loc [] x, evO E.glob env loc [] y with
        | some (.ptr b p), some v => storeK E.P T (.ptr b p) v M (fun M' => regDK E nt ops rest (j + 1) loc env M' rd ((j, b, p) :: wr) K)
        | _, _ => False)
      | _, _, _ => False)
    | false => match o.guard with
      | none => stepD E o env loc [] M (fun v => putL nt loc o.dst (.v v) (fun loc' => regDK E nt ops rest (j + 1) loc' env M (addFoot j (foot o.op (evO E.glob env loc [])) rd) wr K))
      | some (g, w) => match (ops[g]?).bind (·.dst) with
        | none => False
        | some s => match fresh loc s with
          | true => False
          | false => match quiet o.op with
            | true => stepD E o env loc ((s, w) :: chain loc 8 s) M (fun v => putL nt loc o.dst (.opt s w v) (fun loc' => regDK E nt ops rest (j + 1) loc' env M (addFoot j (foot o.op (evO E.glob env loc ((s, w) :: chain loc 8 s))) rd) wr K))
            | false => match guardB env loc ((s, w) :: chain loc 8 s) with
              | none => False
              | some true => stepD E o env loc ((s, w) :: chain loc 8 s) M (fun v => putL nt loc o.dst (.opt s w v) (fun loc' => regDK E nt ops rest (j + 1) loc' env M (addFoot j (foot o.op (evO E.glob env loc ((s, w) :: chain loc 8 s))) rd) wr K))
              | some false => putL nt loc o.dst (.opt s w (dflt E o.type)) (fun loc' => regDK E nt ops rest (j + 1) loc' env M rd wr K)

def firstId : Code → Nat
  | .region id _ _ => id
  | .seq a _ => firstId a
  | .block _ a => firstId a
  | .scope a => firstId a
  | .loop a => firstId a
  | _ => 0

def execC (E : Env) (call : CallT) (fid : FuncId) (nt : Nat) : Code → St → Kont → Prop
  | .skip, st, K => K .normal st
  | .region _ ops draw, st, K => match draw with
    | true => onB (drOK ops) (regDK E nt ops ops.toList 0 [] st.env st.mem [] [] (fun loc M => onB (noOpt loc st.env) (K .normal ⟨flush loc st.env, M⟩)))
    | false => regK E call nt ops ops.toList [] st.env st.mem (fun loc M => onB (noOpt loc st.env) (K .normal ⟨flush loc st.env, M⟩))
  | .seq a b, st, K => execC E call fid nt a st (fun e st' => match e with
    | .normal => execC E call fid nt b st' K
    | e => K e st')
  | .cond c a b, st, K => match evO E.glob st.env [] [] c with
    | some (.b true) => execC E call fid nt a st K
    | some (.b false) => execC E call fid nt b st K
    | _ => False
  | .block id c, st, K => execC E call fid nt c st (fun e st' => match e with
    | .exit j => (match Nat.beq j id with
      | true => K .normal st'
      | false => K (.exit j) st')
    | e => K e st')
  | .loop c, st, K => match E.loop fid (firstId c) with
    | none => rounds (execC E call fid nt c) K 40 st
    | some l => (match normSt l.keep st.mem.length st with
      | some s => l.pt s K
      | none => False)
  | .exit id, st, K => K (.exit id) st
  | .label _, st, K => K .normal st
  | .ret, st, K => K .ret st
  | _, _, _ => False

def initE : List SV → Nat → List (Tmp × SV)
  | [], _ => []
  | v :: l, n => (n, v) :: initE l (n + 1)

def resV (P : Program) (env : List (Tmp × SV)) (M : Mem) : List ResultVar → (List SV → Prop) → Prop
  | [], K => K []
  | .tmp t :: l, K => match lookE env t with
    | some v => onB (!v.isTup) (resV P env M l (fun vs => K (v :: vs)))
    | none => False
  | .cell a T :: l, K => match lookE env a with
    | some (.ptr b p) => loadK P T (.ptr b p) M (fun v => resV P env M l (fun vs => K (v :: vs)))
    | _ => False

def retK (P : Program) (rs : List ResultVar) (st : St) (K : SV → Mem → Prop) : Prop :=
  resV P st.env st.mem rs (fun vs => match vs with
    | [v] => K v st.mem
    | vs => K (.tup (SVs.ofList vs)) st.mem)

/-- A function's body, run on arguments. -/
def bodyK (E : Env) (call : CallT) (f : FuncId) (fn : Func) (args : List SV) (M : Mem) (K : SV → Mem → Prop) : Prop :=
  match fn.body with
  | none => False
  | some c => onB (Nat.ble args.length fn.ntmps) (execC E call f fn.ntmps c ⟨initE args 0, M⟩ (fun e st => match e with
    | .normal => retK E.P fn.results.toList st K
    | .ret => retK E.P fn.results.toList st K
    | _ => False))

def conK (c : Con) (args : List SV) (M : Mem) (K : SV → Mem → Prop) : Prop :=
  match c with
  | .pure pre f => match f args with
    | some r => onB (clAll 0 args) (pre args ∧ K r M)
    | none => False
  | .mth pt => match args with
    | .ptr b [] :: l => match getM M b with
      | some t => onB (t.cl 0 && clAll 0 l) (pt t l (fun r t' => K r (setM M b t')))
      | none => False
    | _ => False

def callN (E : Env) : Nat → CallT
  | 0, _, _, _, _ => False
  | n + 1, f, args, M, K => match E.gam f with
    | some c => conK c args M K
    | none => match E.P.funcs[f]? with
      | none => False
      | some fn => bodyK E (callN E n) f fn args M K

end Go.Sx
