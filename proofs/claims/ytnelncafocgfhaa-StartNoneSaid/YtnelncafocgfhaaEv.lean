/- A runner of Go code on an abstract memory, with no program in sight: values, memory, operations, code, calls. What it answers is proved of the model in the texts behind this one. -/
import Derived.WalkKit
namespace Go.Proofs.Ytnelncafocgfhaa
namespace Ev
/-- A trie's path. -/
inductive Pth where
  | h | o (p : Pth) | i (p : Pth)
inductive Tr (α : Type) where
  | lf
  | nd (l : Tr α) (v : Option α) (r : Tr α)
def Pth.next : Pth → Pth
  | .h => .o .h
  | .o p => .i p
  | .i p => .o p.next
/-- the path of v, v's first digit being worth 2 ^ k. -/
def pathV : Nat → Nat → Pth
  | 0, _ => .h
  | k + 1, v => bif Nat.beq (Nat.mod v 2) 0 then .o (pathV k (Nat.div v 2)) else .i (pathV k (Nat.div v 2))
def path (n : Nat) : Pth := pathV (Nat.log2 (Nat.succ n)) (Nat.succ n)
def Tr.get {α : Type} : Pth → Tr α → Option α
  | _, .lf => none
  | .h, .nd _ v _ => v
  | .o p, .nd l _ _ => Tr.get p l
  | .i p, .nd _ _ r => Tr.get p r
def Tr.set {α : Type} (x : Option α) : Pth → Tr α → Tr α
  | .h, .lf => .nd .lf x .lf
  | .o p, .lf => .nd (Tr.set x p .lf) none .lf
  | .i p, .lf => .nd .lf none (Tr.set x p .lf)
  | .h, .nd l _ r => .nd l x r
  | .o p, .nd l v r => .nd (Tr.set x p l) v r
  | .i p, .nd l v r => .nd l v (Tr.set x p r)
/-- A slice's capacity: known, or whatever an append's growth gave (elements of so many cells, up to the row's end; so many at least). -/
inductive ACap where
  | fix (c : Nat) | opn (size least : Nat)
/-- What is not known: a text that is none of these; a number a + b n (n: the number that is not known, or what its last 20 bits say); a number of a known remainder; a number of a range. -/
inductive Sym where
  | txt (id : Nat) (nes : List (List UInt8))
  | lin (low : Bool) (a b : Int)
  | res (n r : Int)
  | rng (k : IntKind) (lo hi : Int)
  deriving Inhabited
inductive AV where
  | sym (s : Sym)
  | int (k : IntKind) (n : Int)
  | bool (b : Bool)
  | str (s : List UInt8)
  | flt (k : FloatKind) (b : Nat)
  | ptr (b off : Nat)
  | nilp
  | slc (b off len : Nat) (cap : ACap)
  | nils
  | emp
  | map (b : Nat)
  | nilm
  | fn (f : FuncId) (cap : List AV)
  | nilf
  | ifc (t : TypeId) (v : AV)
  | nili
  | agg (l : List AV)
  | tup (l : List AV)
  deriving Inhabited
def AV.cells : AV → List AV
  | .agg l => l
  | v => [v]
def AV.scalar : AV → Bool
  | .agg _ | .tup _ => false
  | _ => true
inductive Blk where
  | cells (T n : Nat) (zs : List AV) (t : Tr AV) (opn rw : Bool)
  | map (l : List (AV × AV))
  | iter (s : List UInt8) (pos : Nat)
structure St where
  h : Tr Blk
  n : Nat
def ofCell : Value → Option AV
  | .bool b => some (.bool b)
  | .int k n => some (.int k n)
  | .float k b => some (.flt k b)
  | .string s => some (.str s.data.toList)
  | .pointer none => some .nilp
  | .slice none 0 0 => some .nils
  | .map none => some .nilm
  | .nilFunc => some .nilf
  | .nilIface => some .nili
  | _ => none
def ofCells : List Value → Option (List AV)
  | [] => some []
  | v :: l => match ofCell v with
    | some a => match ofCells l with
      | some r => some (a :: r)
      | none => none
    | none => none
def ofV : Value → Option AV
  | .agg cs => (ofCells cs.toList).map .agg
  | .tuple cs => (ofCells cs.toList).map .tup
  | v => ofCell v
/-- A type, as the runner wants it. -/
structure TI where
  d : TypeDesc
  size : Nat
  bytes : Nat
  zero : List AV
  zv : AV
def TI.isAgg (i : TI) : Bool :=
  match i.d with
  | .struct _ => true
  | .array _ _ => true
  | _ => false
def zeroOf : Option Value → Option AV
  | some v => ofV v
  | none => none
def ti (P : Program) (t : TypeId) : Option TI :=
  match P.info? t with
  | some i => match P.underlying t with
    | some d => match zeroOf i.zero with
      | some z => some ⟨d, i.size, i.bytes, z.cells, z⟩
      | none => none
    | none => none
  | none => none
def slotV : Option AV → AV
  | some v => v
  | none => .tup []
def opnd (P : Program) (fr : Tr AV) : Operand → Option AV
  | .tmp t => some (slotV (fr.get (path t)))
  | .const v => ofV v
  | .global g => bif Nat.blt g P.globals.size then some (.ptr g 0) else none
  | .func f => some (.fn f [])
/-- Cells. -/
def nthA : List AV → Nat → Option AV
  | [], _ => none
  | x :: _, 0 => some x
  | _ :: l, n + 1 => nthA l n
def cellAt (n : Nat) (zs : List AV) (t : Tr AV) (i : Nat) : Option AV :=
  bif Nat.blt i n then
    match t.get (path i) with
    | some v => some v
    | none => nthA zs (i % zs.length)
  else none
def loadN (n : Nat) (zs : List AV) (t : Tr AV) : Nat → Nat → Option (List AV)
  | _, 0 => some []
  | i, k + 1 => match cellAt n zs t i with
    | some v => match loadN n zs t (i + 1) k with
      | some l => some (v :: l)
      | none => none
    | none => none
def storeL (t : Tr AV) (i : Nat) : List AV → Tr AV
  | [] => t
  | v :: l => storeL (t.set (some v) (path i)) (i + 1) l
def allScalar : List AV → Bool
  | [] => true
  | v :: l => v.scalar && allScalar l
def rowOf (T : TypeId) (l : List AV) (opn : Bool) : Blk := .cells T l.length [] (storeL .lf 0 l) opn true
def St.new (s : St) (b : Blk) : St := ⟨s.h.set (some b) (path s.n), s.n + 1⟩
def loadAt (s : St) (i : TI) (b off : Nat) : Option AV :=
  match s.h.get (path b) with
  | some (.cells _ n zs t _ _) => bif i.isAgg then (loadN n zs t off i.size).map .agg else cellAt n zs t off
  | _ => none
def storeAt (s : St) (lo b off : Nat) (l : List AV) : Option St :=
  match s.h.get (path b) with
  | some (.cells T n zs t o true) => bif Nat.ble lo b && Nat.ble (off + l.length) n && allScalar l then some ⟨s.h.set (some (.cells T n zs (storeL t off l) o true)) (path b), s.n⟩ else none
  | _ => none
def partAV (i : TI) (cs : List AV) (off : Nat) : Option AV :=
  bif i.isAgg then (bif Nat.ble (off + i.size) cs.length then some (.agg ((cs.drop off).take i.size)) else none) else nthA cs off
def putParts (place : Nat → Option (Nat × Nat)) (cells : List AV) : List (Nat × AV) → Option (List AV)
  | [] => some cells
  | (i, v) :: r => match place i with
    | none => none
    | some (off, size) =>
      bif v.cells.length == size && Nat.ble (off + size) cells.length then putParts place (cells.take off ++ v.cells ++ cells.drop (off + size)) r else none
def opnds (P : Program) (fr : Tr AV) : List Operand → Option (List AV)
  | [] => some []
  | x :: l => match opnd P fr x with
    | some v => match opnds P fr l with
      | some r => some (v :: r)
      | none => none
    | none => none
def opndParts (P : Program) (fr : Tr AV) : List (Nat × Operand) → Option (List (Nat × AV))
  | [] => some []
  | (i, x) :: l => match opnd P fr x with
    | some v => match opndParts P fr l with
      | some r => some ((i, v) :: r)
      | none => none
    | none => none
def sizesOf (P : Program) : List Field → Option (List (Nat × Nat))
  | [] => some []
  | f :: l => match ti P f.type with
    | some i => match sizesOf P l with
      | some r => some ((f.offset, i.size) :: r)
      | none => none
    | none => none
def rep (zs : List AV) : Nat → List AV
  | 0 => []
  | n + 1 => zs ++ rep zs n
/-- Numbers. -/
def wrapK (k : IntKind) (n : Int) : Int :=
  match k, n with
  | .i64, .ofNat m => bif Nat.blt m 9223372036854775808 then .ofNat m else IntKind.i64.wrap n
  | k, n => k.wrap n
def binInt (op : BinOp) (k : IntKind) (x y : Int) : Option AV :=
  match op with
  | .add => some (.int k (wrapK k (x + y)))
  | .sub => some (.int k (wrapK k (x - y)))
  | .mul => some (.int k (wrapK k (x * y)))
  | .quo => bif y == 0 then none else some (.int k (wrapK k (x.tdiv y)))
  | .rem => bif y == 0 then none else some (.int k (x.tmod y))
  | .and => some (.int k (k.wrap (BitVec.ofInt k.bits x &&& BitVec.ofInt k.bits y).toNat))
  | .or => some (.int k (k.wrap (BitVec.ofInt k.bits x ||| BitVec.ofInt k.bits y).toNat))
  | .xor => some (.int k (k.wrap (BitVec.ofInt k.bits x ^^^ BitVec.ofInt k.bits y).toNat))
  | .andNot => some (.int k (k.wrap (BitVec.ofInt k.bits x &&& ~~~ BitVec.ofInt k.bits y).toNat))
  | .eql => some (.bool (x == y))
  | .neq => some (.bool (x != y))
  | .lss => some (.bool (decide (x < y)))
  | .leq => some (.bool (decide (x ≤ y)))
  | .gtr => some (.bool (decide (x > y)))
  | .geq => some (.bool (decide (x ≥ y)))
  | _ => none
def shiftInt (op : BinOp) (k : IntKind) (x y : Int) : Option AV :=
  bif decide (y < 0) then none else
  match op with
  | .shl => some (.int k (k.wrap (x * 2 ^ (min y.toNat k.bits))))
  | .shr => some (.int k (x.fdiv (2 ^ (min y.toNat k.bits))))
  | _ => none
def sameBytes : List UInt8 → List UInt8 → Bool
  | [], [] => true
  | a :: x, b :: y => Nat.beq a.toNat b.toNat && sameBytes x y
  | _, _ => false
def lessBytes : List UInt8 → List UInt8 → Bool
  | _, [] => false
  | [], _ :: _ => true
  | a :: x, b :: y => Nat.blt a.toNat b.toNat || (Nat.beq a.toNat b.toNat && lessBytes x y)
def binStr (op : BinOp) (x y : List UInt8) : Option AV :=
  match op with
  | .add => bif Nat.blt (x.length + y.length) 9223372036854775807 then some (.str (x ++ y)) else none
  | .eql => some (.bool (sameBytes x y))
  | .neq => some (.bool (!sameBytes x y))
  | .lss => some (.bool (lessBytes x y))
  | .leq => some (.bool (lessBytes x y || sameBytes x y))
  | .gtr => some (.bool (!(lessBytes x y || sameBytes x y)))
  | .geq => some (.bool (!lessBytes x y))
  | _ => none
/-- '==' of what is no number and no text. -/
def eqAV : AV → AV → Option Bool
  | .bool a, .bool b => some (a == b)
  | .nilp, .nilp => some true
  | .nilp, .ptr _ _ => some false
  | .ptr _ _, .nilp => some false
  | .nils, .nils => some true
  | .nils, .slc .. => some false
  | .slc .., .nils => some false
  | .nils, .emp => some false
  | .emp, .nils => some false
  | .nilm, .nilm => some true
  | .nilm, .map _ => some false
  | .map _, .nilm => some false
  | .nilf, .nilf => some true
  | .nilf, .fn .. => some false
  | .fn .., .nilf => some false
  | .nili, .ifc .. => some false
  | .ifc .., .nili => some false
  | _, _ => none
/-- the types at which eqAV answers. -/
def eqDesc : TypeDesc → AV → Bool
  | .bool, .bool _ => true
  | .pointer _, .nilp | .pointer _, .ptr .. => true
  | .slice _, .nils | .slice _, .slc .. | .slice _, .emp => true
  | .map .., .nilm | .map .., .map _ => true
  | .func .., .nilf | .func .., .fn .. => true
  | .interface _, .nili | .interface _, .ifc .. => true
  | _, _ => false
/-- two arrays of whole numbers. -/
def eqInts : Nat → List AV → List AV → Option Bool
  | 0, [], [] => some true
  | n + 1, .int k a :: x, .int k' b :: y => bif k == k' then (bif a == b then eqInts n x y else some false) else none
  | _, _, _ => none
def eqBig (P : Program) (t : TypeId) (d : TypeDesc) (x y : AV) : Option Bool :=
  match d, x, y with
  | .array n e, .agg l, .agg r => match ti P e with
    | some j => match j.d with
      | .int _ => bif j.size == 1 && !P.eqGuardType P.depth t then eqInts n l r else none
      | _ => none
    | none => none
  | .pointer e, .ptr a k, .ptr b m => match ti P e with
    | some j => bif j.size == 0 then none else (bif a == b then some (k == m) else none)
    | none => none
  | _, _, _ => none
def eqAt (P : Program) (t : TypeId) (x y : AV) : Option Bool :=
  match ti P t with
  | some i => match eqBig P t i.d x y with
    | some b => some b
    | none => bif eqDesc i.d x && eqDesc i.d y then eqAV x y else none
  | none => none
/-- what is not known, with a number or a text. -/
def amongB (b : List UInt8) : List (List UInt8) → Bool
  | [] => false
  | x :: l => sameBytes b x || amongB b l
def apart (low : Bool) (a b : Int) : Bool :=
  low && ((decide (0 < a) && decide (0 ≤ b) && decide (a + b * 1048576 < 9223372036854775808)) || (decide (a < 0) && decide (b ≤ 0) && decide (-9223372036854775808 < a + b * 1048576)))
def inI64 (n : Int) : Bool := decide (-9223372036854775808 ≤ n) && decide (n < 9223372036854775808)
def eqSym (op : BinOp) (b : Bool) : Option AV :=
  match op with
  | .eql => some (.bool b)
  | .neq => some (.bool (!b))
  | _ => none
def rngInt (op : BinOp) (lo hi n : Int) : Option AV :=
  match op with
  | .eql => bif decide (n < lo) || decide (hi < n) then some (.bool false) else none
  | .neq => bif decide (n < lo) || decide (hi < n) then some (.bool true) else none
  | .lss => bif decide (hi < n) then some (.bool true) else bif decide (n ≤ lo) then some (.bool false) else none
  | .leq => bif decide (hi ≤ n) then some (.bool true) else bif decide (n < lo) then some (.bool false) else none
  | .gtr => bif decide (n < lo) then some (.bool true) else bif decide (hi ≤ n) then some (.bool false) else none
  | .geq => bif decide (n ≤ lo) then some (.bool true) else bif decide (hi < n) then some (.bool false) else none
  | _ => none
def intRng (op : BinOp) (n lo hi : Int) : Option AV :=
  match op with
  | .eql => rngInt .eql lo hi n
  | .neq => rngInt .neq lo hi n
  | .lss => rngInt .gtr lo hi n
  | .leq => rngInt .geq lo hi n
  | .gtr => rngInt .lss lo hi n
  | .geq => rngInt .leq lo hi n
  | _ => none
def symBin (op : BinOp) (x y : AV) : Option AV :=
  match x, y with
  | .sym (.txt _ l), .str b => bif amongB b l then eqSym op false else none
  | .str b, .sym (.txt _ l) => bif amongB b l then eqSym op false else none
  | .sym (.txt i _), .sym (.txt j _) => bif Nat.beq i j then eqSym op true else none
  | .sym (.lin l a b), .int .i64 n => match op with
    | .add => some (.sym (.lin l (a + n) b))
    | .sub => some (.sym (.lin l (a - n) b))
    | .mul => some (.sym (.lin l (a * n) (b * n)))
    | .and => bif !l && decide (a = 0) && decide (b = 1) && decide (n = 1048575) then some (.sym (.lin true 0 1)) else none
    | _ => bif apart l (a - n) b && inI64 n then eqSym op false else none
  | .int .i64 n, .sym (.lin l a b) => match op with
    | .add => some (.sym (.lin l (n + a) b))
    | .sub => some (.sym (.lin l (n - a) (0 - b)))
    | .mul => some (.sym (.lin l (n * a) (n * b)))
    | _ => bif apart l (a - n) b && inI64 n then eqSym op false else none
  | .sym (.lin l a b), .sym (.lin l' a' b') => bif l == l' then (match op with
    | .add => some (.sym (.lin l (a + a') (b + b')))
    | .sub => some (.sym (.lin l (a - a') (b - b')))
    | _ => bif decide (a = a') && decide (b = b') then eqSym op true else bif apart l (a - a') (b - b') then eqSym op false else none) else none
  | .sym (.res m r), .int .i64 n => match op with
    | .rem => bif decide (n = m) && !decide (n = 0) then some (.int .i64 r) else none
    | _ => none
  | .sym (.rng k lo hi), .int k' n => bif k == k' then rngInt op lo hi n else none
  | .int k' n, .sym (.rng k lo hi) => bif k == k' then intRng op n lo hi else none
  | _, _ => none
def binAV (P : Program) (op : BinOp) (t : TypeId) (x y : AV) : Option AV :=
  match x, y with
  | .sym s, y => symBin op (.sym s) y
  | x, .sym s => symBin op x (.sym s)
  | .int k a, .int k' b => match op with
    | .shl | .shr => shiftInt op k a b
    | _ => bif k == k' then binInt op k a b else none
  | .str a, .str b => binStr op a b
  | x, y => match op with
    | .eql => match eqAt P t x y with
      | some b => some (.bool b)
      | none => none
    | .neq => match eqAt P t x y with
      | some b => some (.bool (!b))
      | none => none
    | _ => none
def unAV : UnOp → AV → Option AV
  | .neg, .int k n => some (.int k (wrapK k (0 - n)))
  | .not, .bool b => some (.bool (!b))
  | _, _ => none
def newSlice (s : St) (T : TypeId) (l : List AV) (len : Nat) (cap : ACap) (opn : Bool) : Option (AV × St) :=
  some (.slc s.n 0 len cap, s.new (rowOf T l opn))
def convAV (P : Program) (src dst : TypeId) (x : AV) : Option AV :=
  match ti P src, ti P dst, x with
  | some _, some j, .int _ n => match j.d with
    | .int k => some (.int k (wrapK k n))
    | _ => none
  | some _, some j, .str s => match j.d with
    | .string => some (.str s)
    | _ => none
  | some _, some j, .sym (.txt i l) => match j.d with
    | .string => some (.sym (.txt i l))
    | _ => none
  | some _, some j, .sym (.lin l a b) => match j.d with
    | .int .i64 => some (.sym (.lin l a b))
    | _ => none
  | _, _, _ => none
def bytesOf : List AV → Option (List UInt8)
  | [] => some []
  | .int .u8 (.ofNat n) :: l => match bytesOf l with
    | some r => bif Nat.blt n 256 then some (UInt8.ofNat n :: r) else none
    | none => none
  | _ :: _ => none
/-- the bounds of a slice expression: low, high, max. -/
def bound (x : AV) (y : Nat) : Option Nat :=
  match x with
  | .int _ i => bif decide (0 ≤ i) && decide (i ≤ (y : Int)) then some i.toNat else none
  | _ => none
def boundOr (x : Option AV) (y d : Nat) : Option Nat :=
  match x with
  | some v => bound v y
  | none => some d
def opndOpt (P : Program) (fr : Tr AV) : Option Operand → Option (Option AV)
  | none => some none
  | some x => match opnd P fr x with
    | some v => some (some v)
    | none => none
def sliceAV (P : Program) (t : TypeId) (x : AV) (lo hi mx : Option AV) : Option AV :=
  match ti P t with
  | none => none
  | some i => match i.d, x with
    | .string, .str s => match mx with
      | some _ => none
      | none => match boundOr hi s.length s.length with
        | none => none
        | some h => match boundOr lo h 0 with
          | none => none
          | some l => some (.str ((s.drop l).take (h - l)))
    | .array n e, .ptr b off => match ti P e with
      | none => none
      | some j => match boundOr mx n n with
        | none => none
        | some m => match boundOr hi m n with
          | none => none
          | some h => match boundOr lo h 0 with
            | none => none
            | some l => bif (mx.isSome && hi.isNone) then none else some (.slc b (bif m == l then off else off + l * j.size) (h - l) (.fix (m - l)))
    | .slice e, .slc b off len (.fix cap) => match ti P e with
      | none => none
      | some j => match boundOr mx cap cap with
        | none => none
        | some m => match boundOr hi m len with
          | none => none
          | some h => match boundOr lo h 0 with
            | none => none
            | some l => bif (mx.isSome && hi.isNone) then none else some (.slc b (bif m == l then off else off + l * j.size) (h - l) (.fix (m - l)))
    | .slice e, .slc b off len (.opn size least) => match ti P e with
      | none => none
      | some j => bif j.size == size && Nat.ble len least then
          match mx with
          | some v => match bound v least with
            | none => none
            | some m => match boundOr hi m len with
              | none => none
              | some h => match boundOr lo h 0 with
                | none => none
                | some l => bif hi.isNone then none else some (.slc b (bif m == l then off else off + l * size) (h - l) (.fix (m - l)))
          | none => match boundOr hi least len with
            | none => none
            | some h => match boundOr lo h 0 with
              | none => none
              | some l => bif l == 0 then some (.slc b off h (.opn size least)) else bif Nat.blt l least then some (.slc b (off + l * size) (h - l) (.opn size (least - l))) else some .emp
        else none
    | .slice e, .emp => match ti P e with
      | none => none
      | some _ => match mx with
        | some _ => none
        | none => match boundOr hi 0 0 with
          | none => none
          | some h => match boundOr lo h 0 with
            | none => none
            | some _ => some .emp
    | .slice e, .nils => match ti P e with
      | none => none
      | some _ => match boundOr mx 0 0 with
        | none => none
        | some m => match boundOr hi m 0 with
          | none => none
          | some h => match boundOr lo h 0 with
            | none => none
            | some _ => bif (mx.isSome && hi.isNone) then none else some .nils
    | _, _ => none
def zeroRow (T : TypeId) (n : Nat) (zs : List AV) : Blk := .cells T n zs .lf false true
/-- Maps: keys that are texts or whole numbers. -/
def keySame : AV → AV → Option Bool
  | .str a, .str b => some (sameBytes a b)
  | .int k a, .int k' b => bif k == k' then some (a == b) else none
  | .bool a, .bool b => some (a == b)
  | .sym (.txt _ l), .str b => bif amongB b l then some false else none
  | .agg [.int .i64 a, .int .i64 b], .agg [.int .i64 c, .int .i64 d] => some (a == c && b == d)
  | _, _ => none
def keyDesc : TypeDesc → AV → Bool
  | .string, .str _ => true
  | .string, .sym (.txt ..) => true
  | .int k, .int k' _ => k == k'
  | .bool, .bool _ => true
  | _, _ => false
/-- a struct of two whole numbers, as a key. -/
def intDesc (P : Program) (t : TypeId) : Bool := match P.underlying t with
  | some (.int .i64) => true
  | _ => false
def pairShape (P : Program) (t : TypeId) : Bool := match P.underlying t with
  | some (.struct fs) => match fs.toList with
    | [f, g] => f.name != "_" && g.name != "_" && Nat.beq f.offset 0 && Nat.beq g.offset 1 && intDesc P f.type && intDesc P g.type && !P.stoodInHeld t
    | _ => false
  | _ => false
def pairKey (P : Program) (t : TypeId) : AV → Bool
  | .agg [.int .i64 _, .int .i64 _] => pairShape P t
  | _ => false
def keyOk (P : Program) (t : TypeId) (d : TypeDesc) (k : AV) : Bool := bif keyDesc d k then true else pairKey P t k
def findE (k : AV) : List (AV × AV) → Option (Option AV)
  | [] => some none
  | (a, v) :: l => match keySame k a with
    | some true => some (some v)
    | some false => findE k l
    | none => none
def putE (k v : AV) : List (AV × AV) → Option (List (AV × AV))
  | [] => some [(k, v)]
  | (a, u) :: l => match keySame k a with
    | some true => some ((a, v) :: l)
    | some false => match putE k v l with
      | some r => some ((a, u) :: r)
      | none => none
    | none => none
def foundE (s : St) (m k : AV) : Option (Option AV) :=
  match m with
  | .nilm => some none
  | .map r => match s.h.get (path r) with
    | some (.map l) => findE k l
    | _ => none
  | _ => none
def lenAV : AV → Option Nat
  | .nils => some 0
  | .emp => some 0
  | .slc _ _ n _ => some n
  | .str s => some s.length
  | _ => none
/-- the first n elements (of so many cells) of a slice or text. -/
def firstAV (s : St) (size n : Nat) : AV → Option (List AV)
  | .nils => some []
  | .emp => bif n * size == 0 then some [] else none
  | .slc b off _ _ => match s.h.get (path b) with
    | some (.cells _ m zs t _ _) => loadN m zs t off (n * size)
    | _ => none
  | .str bs => some ((bs.take n).map fun c => .int .u8 c.toNat)
  | _ => none
/-- 'append(nil, make([]T, n)...)', as the translator words it. -/
def growAV (P : Program) (s : St) (t : TypeId) (x y : AV) : Option (AV × St) :=
  match ti P t with
  | none => none
  | some i => match i.d, x, y with
    | .slice e, .nils, .int _ (.ofNat m) => match ti P e with
      | none => none
      | some j => bif Nat.blt 0 j.size && (j.zero.length == j.size) && Nat.ble j.bytes 1048576 && Nat.blt 0 m && Nat.ble m 1048576 then
          some (.slc s.n 0 m (.opn j.size m), s.new (.cells e (m * j.size) j.zero .lf true true))
        else none
    | _, _, _ => none
def appendAV (P : Program) (s : St) (lo : Nat) (t xt : TypeId) (x y : AV) : Option (AV × St) :=
  match ti P t with
  | none => none
  | some i => match ti P xt with
    | none => none
    | some xi => match i.d, xi.d with
      | _, .int _ => growAV P s t x y
      | .slice e, _ => match ti P e with
        | none => none
        | some j => match lenAV y with
          | none => none
          | some m => match firstAV s j.size m y with
            | none => none
            | some news => bif !(Nat.blt 0 j.size && (j.zero.length == j.size) && Nat.ble (j.bytes) 1048576 && (news.length == m * j.size) && allScalar news) then none else match x with
              | .nils => bif m == 0 then some (.nils, s) else
                  bif Nat.ble m 1048576 then newSlice s e news m (.opn j.size m) true else none
              | .slc b off len (.fix cap) =>
                bif Nat.ble (len + m) cap then
                  match storeAt s lo b (off + len * j.size) news with
                  | some s' => some (.slc b off (len + m) (.fix cap), s')
                  | none => none
                else match firstAV s j.size len x with
                  | none => none
                  | some old => bif Nat.ble (len + m) 1048576 then newSlice s e (old ++ news) (len + m) (.opn j.size (len + m)) true else none
              | .slc b off len (.opn size least) => bif !(size == j.size) then none else bif Nat.ble (len + m) least then
                  match storeAt s lo b (off + len * j.size) news with
                  | some s' => some (.slc b off (len + m) (.opn size least), s')
                  | none => none
                else match s.h.get (path b) with
                | some (.cells T n zs tr true true) =>
                  bif Nat.ble lo b && (off == 0) && (n == len * j.size) && (T == e) && Nat.ble (len + m) 1048576 then
                    some (.slc s.n 0 (len + m) (.opn j.size (len + m)), ⟨(s.h.set none (path b)).set (some (.cells T (n + m * j.size) zs (storeL tr n news) true true)) (path s.n), s.n + 1⟩)
                  else none
                | _ => none
              | _ => none
      | _, _ => none
def callBuiltin (P : Program) (s : St) (lo : Nat) (b : Builtin) (ts : List TypeId) (args : List AV) : Option (AV × St) :=
  match b, ts, args with
  | .append, t :: xt :: _, x :: y :: _ => appendAV P s lo t xt x y
  | .len, t :: _, x :: _ => match ti P t with
    | none => none
    | some i => match i.d, x with
      | .string, .str b => some (.int .i64 b.length, s)
      | .array n _, _ => some (.int .i64 n, s)
      | .slice _, .slc _ _ n _ => some (.int .i64 n, s)
      | .slice _, .nils => some (.int .i64 0, s)
      | .slice _, .emp => some (.int .i64 0, s)
      | .map .., .nilm => some (.int .i64 0, s)
      | .map .., .map r => match s.h.get (path r) with
        | some (.map l) => some (.int .i64 l.length, s)
        | _ => none
      | _, _ => none
  | .cap, t :: _, x :: _ => match ti P t with
    | none => none
    | some i => match i.d, x with
      | .array n _, _ => some (.int .i64 n, s)
      | .slice _, .slc _ _ _ (.fix c) => some (.int .i64 c, s)
      | .slice _, .nils => some (.int .i64 0, s)
      | _, _ => none
  | .min, _, [.int k x, .int k' y] => bif k == k' then some (.int k (bif decide (y < x) then y else x), s) else none
  | .max, _, [.int k x, .int k' y] => bif k == k' then some (.int k (bif decide (y > x) then y else x), s) else none
  | .copy, t :: _, x :: y :: _ => match ti P t with
    | none => none
    | some i => match i.d with
      | .slice e => match ti P e with
        | none => none
        | some j => match lenAV x, lenAV y with
          | some dl, some sl => match firstAV s j.size (Nat.min sl dl) y with
            | none => none
            | some news => match x with
              | .nils => some (.int .i64 0, s)
              | .slc b off _ _ => match storeAt s lo b off news with
                | some s' => some (.int .i64 (Nat.min sl dl : Nat), s')
                | none => none
              | _ => none
          | _, _ => none
      | _ => none
  | .clear, t :: _, [x] => match ti P t with
    | none => none
    | some i => match i.d with
      | .slice e => match ti P e with
        | none => none
        | some j => match x with
          | .nils => some (.tup [], s)
          | .emp => some (.tup [], s)
          | .slc b off len _ => match storeAt s lo b off (rep j.zero len) with
            | some s' => some (.tup [], s')
            | none => none
          | _ => none
      | _ => none
  | _, _, _ => none
def nextAV (s : St) (b pos : Nat) : List UInt8 → Option (AV × St)
  | [] => some (.tup [.bool false], s)
  | c :: r => bif Nat.blt c.toNat 128 then
      some (.tup [.bool true, .int .i64 pos, .int .i32 c.toNat], ⟨s.h.set (some (.iter r (pos + 1))) (path b), s.n⟩)
    else none
def updAV (P : Program) (lo : Nat) (s : St) (t : TypeId) (r : Nat) (kv v : AV) : Option (AV × St) :=
  match ti P t with
  | none => none
  | some i => match i.d with
    | .map kt _ => match ti P kt with
      | none => none
      | some ki => bif keyOk P kt ki.d kv && Nat.ble lo r then
          match s.h.get (path r) with
          | some (.map l) => match putE kv v l with
            | some l' => some (.tup [], ⟨s.h.set (some (.map l')) (path r), s.n⟩)
            | none => none
          | _ => none
        else none
    | _ => none
/-! Operations that are no calls of Go functions, one by one: the value, and the memory. -/
set_option linter.unusedVariables false
def evMove (P : Program) (lo : Nat) (fr : Tr AV) (s : St) (x : Operand) : Option (AV × St) :=
  match opnd P fr x with
  | some v => some (v, s)
  | none => none
def evAssign (P : Program) (lo : Nat) (fr : Tr AV) (s : St) (x : Operand) : Option (AV × St) :=
  match opnd P fr x with
  | some v => some (v, s)
  | none => none
def evPick (P : Program) (lo : Nat) (fr : Tr AV) (s : St) (c : Operand) (a : Operand) (b : Operand) : Option (AV × St) :=
  match opnd P fr c with
  | some (.bool t) => match opnd P fr (bif t then a else b) with
    | some v => some (v, s)
    | none => none
  | _ => none
def evAlloc (P : Program) (lo : Nat) (fr : Tr AV) (s : St) (T : TypeId) : Option (AV × St) :=
  match ti P T with
  | some i => some (.ptr s.n 0, s.new (zeroRow T i.zero.length i.zero))
  | none => none
def evBox (P : Program) (lo : Nat) (fr : Tr AV) (s : St) (T : TypeId) (x : Operand) : Option (AV × St) :=
  match opnd P fr x with
  | some v => some (.ptr s.n 0, s.new (rowOf T v.cells false))
  | none => none
def evBuild (P : Program) (lo : Nat) (fr : Tr AV) (s : St) (t : TypeId) (parts : Array (Nat × Operand)) : Option (AV × St) :=
  match ti P t with
  | none => none
  | some i => match opndParts P fr parts.toList with
    | none => none
    | some ps => match i.d with
      | .struct fs => match sizesOf P fs.toList with
        | none => none
        | some pl => match putParts (fun k => pl[k]?) i.zero ps with
          | none => none
          | some l => some (.agg l, s)
      | .array _ e => match ti P e with
        | none => none
        | some j => match putParts (fun k => some (k * j.size, j.size)) i.zero ps with
          | none => none
          | some l => some (.agg l, s)
      | _ => none
def evBuildSlice (P : Program) (lo : Nat) (fr : Tr AV) (s : St) (t : TypeId) (len : Nat) (parts : Array (Nat × Operand)) : Option (AV × St) :=
  match ti P t with
  | none => none
  | some i => match opndParts P fr parts.toList with
    | none => none
    | some ps => match i.d with
      | .slice e => match ti P e with
        | none => none
        | some j => bif Nat.ble (len * j.size) 1048576 && (j.zero.length == j.size) then
            match putParts (fun k => some (k * j.size, j.size)) (rep j.zero len) ps with
            | none => none
            | some l => newSlice s e l len (.fix len) false
          else none
      | _ => none
def evLoad (P : Program) (lo : Nat) (fr : Tr AV) (s : St) (t : TypeId) (a : Operand) : Option (AV × St) :=
  match opnd P fr a with
  | some (.ptr b off) => match ti P t with
    | none => none
    | some i => match loadAt s i b off with
      | some v => some (v, s)
      | none => none
  | _ => none
def evStore (P : Program) (lo : Nat) (fr : Tr AV) (s : St) (t : TypeId) (a : Operand) (x : Operand) : Option (AV × St) :=
  match opnd P fr a with
  | some (.ptr b off) => match ti P t with
    | none => none
    | some i => match opnd P fr x with
      | none => none
      | some v => bif v.cells.length == i.size then
          match storeAt s lo b off v.cells with
          | some s' => some (.tup [], s')
          | none => none
        else none
  | _ => none
def evNilCheck (P : Program) (lo : Nat) (fr : Tr AV) (s : St) (x : Operand) : Option (AV × St) :=
  match opnd P fr x with
  | some (.ptr b off) => some (.ptr b off, s)
  | some (.fn f cap) => some (.fn f cap, s)
  | some (.slc b o l c) => some (.slc b o l c, s)
  | some (.map b) => some (.map b, s)
  | _ => none
def evBinOp (P : Program) (lo : Nat) (fr : Tr AV) (s : St) (op : BinOp) (t : TypeId) (x : Operand) (y : Operand) : Option (AV × St) :=
  match opnd P fr x with
  | none => none
  | some a => match opnd P fr y with
    | none => none
    | some b => match binAV P op t a b with
      | some v => some (v, s)
      | none => none
def evUnOp (P : Program) (lo : Nat) (fr : Tr AV) (s : St) (op : UnOp) (x : Operand) : Option (AV × St) :=
  match opnd P fr x with
  | none => none
  | some a => match unAV op a with
    | some v => some (v, s)
    | none => none
def evConvert (P : Program) (lo : Nat) (fr : Tr AV) (s : St) (src : TypeId) (dst : TypeId) (x : Operand) : Option (AV × St) :=
  match opnd P fr x with
  | none => none
  | some a => match a with
    | .slc _ _ n _ => match ti P src, ti P dst with
      | some i, some j => match i.d, j.d with
        | .slice e, .string => match ti P e with
          | some k => match k.d with
            | .int .u8 => match firstAV s 1 n a with
              | some l => match bytesOf l with
                | some b => some (.str b, s)
                | none => none
              | none => none
            | _ => none
          | none => none
        | _, _ => none
      | _, _ => none
    | _ => match convAV P src dst a with
      | some v => some (v, s)
      | none => none
def evMakeInterface (P : Program) (lo : Nat) (fr : Tr AV) (s : St) (t : TypeId) (x : Operand) : Option (AV × St) :=
  match ti P t with
  | none => none
  | some i => match i.d with
    | .interface _ => none
    | _ => match opnd P fr x with
      | some v => some (.ifc t v, s)
      | none => none
def evMakeFunc (P : Program) (lo : Nat) (fr : Tr AV) (s : St) (f : FuncId) (first : Array Operand) (captured : Array Operand) : Option (AV × St) :=
  bif first.isEmpty then
    match opnds P fr captured.toList with
    | some l => some (.fn f l, s)
    | none => none
  else none
def evMakeMap (P : Program) (lo : Nat) (fr : Tr AV) (s : St) (t : TypeId) : Option (AV × St) :=
  match ti P t with
  | none => none
  | some _ => some (.map s.n, s.new (.map []))
def evMakeSlice (P : Program) (lo : Nat) (fr : Tr AV) (s : St) (t : TypeId) (l : Operand) (c : Operand) : Option (AV × St) :=
  match ti P t with
  | none => none
  | some i => match i.d with
    | .slice e => match ti P e with
      | none => none
      | some j => match opnd P fr l, opnd P fr c with
        | some (.int _ len), some (.int _ cap) =>
          bif decide (0 ≤ len) && decide (len ≤ cap) && decide (cap ≤ 1048576) && Nat.ble j.bytes 1048576 && (Nat.blt 0 j.zero.length && (j.zero.length == j.size)) then
            some (.slc s.n 0 len.toNat (.fix cap.toNat), s.new (zeroRow e (cap.toNat * j.size) j.zero))
          else none
        | _, _ => none
    | _ => none
def evSlice (P : Program) (lo : Nat) (fr : Tr AV) (s : St) (t : TypeId) (x : Operand) (lo' : Option Operand) (hi : Option Operand) (mx : Option Operand) : Option (AV × St) :=
  match opnd P fr x with
  | none => none
  | some v => match opndOpt P fr lo' with
    | none => none
    | some l => match opndOpt P fr hi with
      | none => none
      | some h => match opndOpt P fr mx with
        | none => none
        | some m => match sliceAV P t v l h m with
          | some r => some (r, s)
          | none => none
def evFieldAddr (P : Program) (lo : Nat) (fr : Tr AV) (s : St) (st : TypeId) (x : Operand) (f : Nat) : Option (AV × St) :=
  match ti P st with
  | none => none
  | some i => match i.d with
    | .struct fs => match fs[f]? with
      | none => none
      | some fd => match ti P fd.type with
        | none => none
        | some j => bif j.size == 0 then none else
          match opnd P fr x with
          | some (.ptr b off) => some (.ptr b (off + fd.offset), s)
          | _ => none
    | _ => none
def evField (P : Program) (lo : Nat) (fr : Tr AV) (s : St) (t : TypeId) (x : Operand) (f : Nat) : Option (AV × St) :=
  match ti P t with
  | none => none
  | some i => match i.d with
    | .struct fs => match fs[f]? with
      | none => none
      | some fd => match ti P fd.type with
        | none => none
        | some j => match opnd P fr x with
          | some (.agg cs) => match partAV j cs fd.offset with
            | some v => some (v, s)
            | none => none
          | _ => none
    | _ => none
def evIndexAddr (P : Program) (lo : Nat) (fr : Tr AV) (s : St) (t : TypeId) (x : Operand) (ix : Operand) : Option (AV × St) :=
  match opnd P fr ix with
  | some (.int _ k) => match ti P t with
    | none => none
    | some i => match i.d, opnd P fr x with
      | .array len e, some (.ptr b off) => match ti P e with
        | none => none
        | some j => bif decide (0 ≤ k) && decide (k < (len : Int)) then some (.ptr b (off + k.toNat * j.size), s) else none
      | .slice e, some (.slc b off len _) => match ti P e with
        | none => none
        | some j => bif decide (0 ≤ k) && decide (k < (len : Int)) then some (.ptr b (off + k.toNat * j.size), s) else none
      | _, _ => none
  | _ => none
def evIndex (P : Program) (lo : Nat) (fr : Tr AV) (s : St) (t : TypeId) (x : Operand) (ix : Operand) : Option (AV × St) :=
  match opnd P fr ix with
  | some (.int _ k) => match ti P t with
    | none => none
    | some i => match i.d, opnd P fr x with
      | .array len e, some (.agg cs) => match ti P e with
        | none => none
        | some j => bif decide (0 ≤ k) && decide (k < (len : Int)) then
            match partAV j cs (k.toNat * j.size) with
            | some v => some (v, s)
            | none => none
          else none
      | .string, some (.str bs) => bif decide (0 ≤ k) then
          match bs[k.toNat]? with
          | some c => some (.int .u8 c.toNat, s)
          | none => none
        else none
      | _, _ => none
  | _ => none
def evLookup (P : Program) (lo : Nat) (fr : Tr AV) (s : St) (t : TypeId) (x : Operand) (ix : Operand) (ok : Bool) : Option (AV × St) :=
  match ti P t with
  | none => none
  | some i => match i.d with
    | .map kt et => match ti P kt, ti P et, opnd P fr x, opnd P fr ix with
      | some ki, some ei, some m, some k => bif keyOk P kt ki.d k then
          match foundE s m k with
          | none => none
          | some (some v) => some (bif ok then .tup [v, .bool true] else v, s)
          | some none => some (bif ok then .tup [ei.zv, .bool false] else ei.zv, s)
        else none
      | _, _, _, _ => none
    | _ => none
def evMapUpdate (P : Program) (lo : Nat) (fr : Tr AV) (s : St) (t : TypeId) (m : Operand) (k : Operand) (x : Operand) : Option (AV × St) :=
  match opnd P fr m, opnd P fr k, opnd P fr x with
  | some (.map r), some kv, some v => updAV P lo s t r kv v
  | _, _, _ => none
def evRange (P : Program) (lo : Nat) (fr : Tr AV) (s : St) (t : TypeId) (x : Operand) : Option (AV × St) :=
  match ti P t with
  | none => none
  | some i => match i.d, opnd P fr x with
    | .string, some (.str bs) => some (.ptr s.n 0, s.new (.iter bs 0))
    | _, _ => none
def evNext (P : Program) (lo : Nat) (fr : Tr AV) (s : St) (it : Operand) : Option (AV × St) :=
  match opnd P fr it with
  | some (.ptr b 0) => bif Nat.ble lo b then
      match s.h.get (path b) with
      | some (.iter bs pos) => nextAV s b pos bs
      | _ => none
    else none
  | _ => none
def evExtract (P : Program) (lo : Nat) (fr : Tr AV) (s : St) (x : Operand) (k : Nat) : Option (AV × St) :=
  match opnd P fr x with
  | some (.tup l) => match l[k]? with
    | some v => some (v, s)
    | none => none
  | _ => none
def evCall (P : Program) (lo : Nat) (fr : Tr AV) (s : St) (c : Call) : Option (AV × St) :=
  match c.callee with
  | .builtin b => match opnds P fr c.args.toList with
    | some l => callBuiltin P s lo b c.argTypes.toList l
    | none => none
  | _ => none
def evOp (P : Program) (lo : Nat) (fr : Tr AV) (s : St) (op : Op) : Option (AV × St) :=
  match op with
  | .move x => evMove P lo fr s x
  | .assign x => evAssign P lo fr s x
  | .pick c a b => evPick P lo fr s c a b
  | .alloc T => evAlloc P lo fr s T
  | .box T x => evBox P lo fr s T x
  | .build t parts => evBuild P lo fr s t parts
  | .buildSlice t len parts => evBuildSlice P lo fr s t len parts
  | .load t a => evLoad P lo fr s t a
  | .store t a x => evStore P lo fr s t a x
  | .nilCheck x => evNilCheck P lo fr s x
  | .binOp op t x y _ => evBinOp P lo fr s op t x y
  | .unOp op _ x => evUnOp P lo fr s op x
  | .convert src dst x => evConvert P lo fr s src dst x
  | .makeInterface t x => evMakeInterface P lo fr s t x
  | .makeFunc (.func f) first captured => evMakeFunc P lo fr s f first captured
  | .makeMap t none => evMakeMap P lo fr s t
  | .makeSlice t l c => evMakeSlice P lo fr s t l c
  | .slice t x lo' hi mx => evSlice P lo fr s t x lo' hi mx
  | .fieldAddr st x f => evFieldAddr P lo fr s st x f
  | .field t x f => evField P lo fr s t x f
  | .indexAddr t x ix => evIndexAddr P lo fr s t x ix
  | .index t x ix => evIndex P lo fr s t x ix
  | .lookup t x ix ok => evLookup P lo fr s t x ix ok
  | .mapUpdate t m k x => evMapUpdate P lo fr s t m k x
  | .insert t m k x => evMapUpdate P lo fr s t m k x
  | .range t x => evRange P lo fr s t x
  | .next it true => evNext P lo fr s it
  | .extract x k => evExtract P lo fr s x k
  | .call c => evCall P lo fr s c
  | _ => none
/-- an operation's place in its region: is it carried out? -/
def wantedOp (fr : Tr AV) (ops : Array Oper) (o : Oper) : Option Bool :=
  match o.guard with
  | none => some true
  | some (j, want) => match ops[j]? with
    | some g => match g.dst with
      | some d => match fr.get (path d) with
        | some (.bool b) => some (b == want)
        | _ => some false
      | none => some false
    | none => some false
inductive Ex where
  | nrm | exit (id : Nat) | ret
inductive Job where
  | code (nt : Nat) (c : Code) (fr : Tr AV) (s : St)
  | call (f : FuncId) (args : List AV) (s : St)
inductive Out where
  | code (e : Ex) (fr : Tr AV) (s : St)
  | call (v : AV) (s : St)
def put (n : Nat) (fr : Tr AV) (dst : Option Tmp) (v : AV) : Option (Tr AV) :=
  match dst with
  | some d => bif Nat.blt d n then some (fr.set (some v) (path d)) else none
  | none => some fr
def startFr (args : List AV) : Tr AV := storeL .lf 0 args
def ress (P : Program) (s : St) (fr : Tr AV) : List ResultVar → Option (List AV)
  | [] => some []
  | .tmp t :: l => match ress P s fr l with
    | some r => some (slotV (fr.get (path t)) :: r)
    | none => none
  | .cell a t :: l => match fr.get (path a) with
    | some (.ptr b off) => match ti P t with
      | some i => match loadAt s i b off with
        | some v => match ress P s fr l with
          | some r => some (v :: r)
          | none => none
        | none => none
      | none => none
    | _ => none
/-- the function that a call comes to, and the arguments. -/
def callee (P : Program) (fr : Tr AV) (c : Call) : Option (FuncId × List AV) :=
  match c.callee with
  | .value f => match opnd P fr f with
    | some (.fn g cap) => match opnds P fr c.args.toList with
      | some l => some (g, l ++ cap)
      | none => none
    | _ => none
  | _ => none
/-- functions without a body. -/
def indexB (c : Nat) : List UInt8 → Nat → Int
  | [], _ => -1
  | x :: l, i => bif Nat.beq x.toNat c then (i : Int) else indexB c l (i + 1)
def evExtern (fn : Func) (args : List AV) : Option AV :=
  bif fn.name == "internal/bytealg.IndexByteString" && fn.origin == "" then
    match args with
    | [.str s, .int .u8 (.ofNat c)] => bif Nat.blt c 256 then some (.int .i64 (indexB c s 0)) else none
    | _ => none
  else none
/-- one operation. -/
def evOper (P : Program) (lo : Nat) (ih : Nat → Job → Option Out) (fr : Tr AV) (s : St) (o : Oper) : Option (AV × St) :=
  match o.op with
  | .call c => match c.callee with
    | .value _ => match callee P fr c with
      | some (f, l) => match P.funcs[f]? with
        | none => none
        | some fn => match fn.body with
          | none => match evExtern fn l with
            | some v => some (v, s)
            | none => none
          | some _ => bif fn.name == "runtime.NumGoroutine" then none else
            match ih lo (.call f l s) with
            | some (.call v s') => some (v, s')
            | _ => none
      | none => none
    | _ => evOp P lo fr s o.op
  | _ => evOp P lo fr s o.op
def evOps (P : Program) (lo nt : Nat) (ih : Nat → Job → Option Out) (ops : Array Oper) : List Oper → Tr AV → St → Option Out
  | [], fr, s => some (.code .nrm fr s)
  | o :: l, fr, s => match wantedOp fr ops o with
    | some true => match evOper P lo ih fr s o with
      | some (v, s') => match put nt fr o.dst v with
        | some fr' => evOps P lo nt ih ops l fr' s'
        | none => none
      | none => none
    | some false => match put nt fr o.dst (.tup []) with
      | some fr' => evOps P lo nt ih ops l fr' s
      | none => none
    | none => none
/-- a load's address. -/
structure Look where
  t : TypeId
  b : Nat
  off : Nat
  v : AV
inductive Kind where
  | calm
  | look (l : Look)
  | writes
structure Rec where
  mask : Nat
  news : List (Nat × Blk)
  kind : Kind
def recMask : List Nat → Nat → Nat
  | [], _ => 0
  | m :: _, 0 => m
  | _ :: l, k + 1 => recMask l k
def maskOf (ms : List Nat) : List Edge → Nat
  | [] => 0
  | e :: l => bif Region.binds .any e then Nat.lor (Nat.lor (2 ^ e.on) (recMask ms e.on)) (maskOf ms l) else maskOf ms l
def addNews (h : Tr Blk) : List (Nat × Blk) → Tr Blk
  | [] => h
  | (i, b) :: l => addNews (h.set (some b) (path i)) l
/-- a memory, and what the operations of the mask have made that is not in it. -/
def memOf (h : Tr Blk) (held mask : Nat) : List Rec → Nat → Tr Blk
  | [], _ => h
  | r :: l, k => memOf (match r.news with
    | [] => h
    | x :: xs => bif Nat.testBit mask k && !Nat.testBit held k then addNews h (x :: xs) else h) held mask l (k + 1)
def newsOf (h : Tr Blk) (n : Nat) : Nat → List (Nat × Blk)
  | 0 => []
  | k + 1 => match h.get (path n) with
    | some b => (n, b) :: newsOf h (n + 1) k
    | none => newsOf h (n + 1) k
/-- how many of those that write stand in the mask. -/
def writesIn (mask : Nat) : List Rec → Nat → Nat
  | [], _ => 0
  | r :: l, k => match r.kind with
    | .writes => bif Nat.testBit mask k then writesIn mask l (k + 1) + 1 else writesIn mask l (k + 1)
    | _ => writesIn mask l (k + 1)
/-- all those so far that write stand in the mask. -/
def allWrites (mask : Nat) : List Rec → Nat → Bool
  | [], _ => true
  | r :: l, k => (match r.kind with
    | .writes => Nat.testBit mask k
    | _ => true) && allWrites mask l (k + 1)
/-- no operation ahead that need not come ahead touches what this one touches. -/
def allApart (ops : Array Oper) (o : Oper) (mask : Nat) : List Oper → Nat → Bool
  | [], _ => true
  | p :: l, k => (Nat.testBit mask k || o.apart ops p) && allApart ops o mask l (k + 1)
def sameCap : ACap → ACap → Bool
  | .fix a, .fix b => a == b
  | .opn a i, .opn b j => a == b && i == j
  | _, _ => false
def sameTxts : List (List UInt8) → List (List UInt8) → Bool
  | [], [] => true
  | a :: l, b :: r => sameBytes a b && sameTxts l r
  | _, _ => false
def sameSym : Sym → Sym → Bool
  | .txt i l, .txt j m => Nat.beq i j && sameTxts l m
  | .lin l a b, .lin l' a' b' => (l == l') && a == a' && b == b'
  | .res a b, .res a' b' => a == a' && b == b'
  | .rng k a b, .rng k' a' b' => (k == k') && a == a' && b == b'
  | _, _ => false
def sameSc : AV → AV → Bool
  | .sym a, .sym b => sameSym a b
  | .int k n, .int k' n' => k == k' && n == n'
  | .bool b, .bool b' => b == b'
  | .nilp, .nilp | .nils, .nils | .nilm, .nilm | .nilf, .nilf | .nili, .nili | .emp, .emp => true
  | .ptr b o, .ptr b' o' => b == b' && o == o'
  | .slc b o l c, .slc b' o' l' c' => b == b' && o == o' && l == l' && sameCap c c'
  | .map b, .map b' => b == b'
  | .str a, .str b => a == b
  | _, _ => false
def sameScs : List AV → List AV → Bool
  | [], [] => true
  | a :: l, b :: r => sameSc a b && sameScs l r
  | _, _ => false
def sameAV : AV → AV → Bool
  | .agg l, .agg r => sameScs l r
  | .fn f l, .fn g r => f == g && sameScs l r
  | a, b => sameSc a b
/-- the memories at which a load may come. -/
structure Core where
  h : Tr Blk
  held : Nat
def lookAt (P : Program) (c : Core) (mask : Nat) (recs : List Rec) (n : Nat) (t : TypeId) (b off : Nat) : Option AV :=
  match ti P t with
  | some i => loadAt ⟨memOf c.h c.held mask recs 0, n⟩ i b off
  | none => none
/-- the load's value at all of these is this one. -/
def lookAll (P : Program) (mask : Nat) (recs : List Rec) (n : Nat) (l : Look) : List Core → Bool
  | [] => true
  | c :: cs => (match lookAt P c mask recs n l.t l.b l.off with
    | some v => sameAV v l.v
    | none => false) && lookAll P mask recs n l cs
def lookFirst (P : Program) (mask : Nat) (recs : List Rec) (n : Nat) (t : TypeId) (b off : Nat) : List Core → Option AV
  | [] => none
  | c :: cs => match lookAt P c mask recs n t b off with
    | some v => bif lookAll P mask recs n ⟨t, b, off, v⟩ cs then some v else none
    | none => none
/-- the loads so far that need not come ahead of what writes now: they read the same behind it. -/
def looksStay (P : Program) (c : Core) (mask : Nat) (all : List Rec) (n : Nat) : List Rec → Nat → Bool
  | [], _ => true
  | r :: l, k => (match r.kind with
    | .look x => Nat.testBit mask k || lookAll P r.mask all n x [c]
    | _ => true) && looksStay P c mask all n l (k + 1)
def belowSc (n : Nat) : AV → Bool
  | .ptr b _ => Nat.blt b n
  | .slc b _ _ _ => Nat.blt b n
  | .map b => Nat.blt b n
  | .fn _ [] => true
  | .fn _ _ | .ifc _ _ | .agg _ | .tup _ => false
  | _ => true
def belowScs (n : Nat) : List AV → Bool
  | [] => true
  | a :: l => belowSc n a && belowScs n l
/-- all blocks that the value names come ahead of n. -/
def belowAV (n : Nat) : AV → Bool
  | .agg l => belowScs n l
  | .fn _ l => belowScs n l
  | a => belowSc n a
structure DSt where
  done : List Oper
  recs : List Rec
  cores : List Core        -- the latest first
  fr : Tr AV
  n : Nat
def DSt.core (d : DSt) : Core := match d.cores with
  | c :: _ => c
  | [] => ⟨.lf, 0⟩
/-- one operation of a region whose order is open. -/
def forceN (n : Nat) : Nat := match n with
  | 0 => 0
  | k + 1 => k + 1
def evDrawOp (P : Program) (lo nt : Nat) (ih : Nat → Job → Option Out) (ops : Array Oper) (o : Oper) (m : Nat) (d : DSt) : Option DSt :=
  match wantedOp d.fr ops o with
  | none => none
  | some false => match put nt d.fr o.dst (.tup []) with
    | some fr' => some ⟨d.done ++ [o], d.recs ++ [⟨m, [], .calm⟩], d.cores, fr', d.n⟩
    | none => none
  | some true =>
    match evOp P d.n d.fr ⟨.lf, d.n⟩ o.op with
    | some (v, s') => bif !Nat.ble d.n s'.n then none else match put nt d.fr o.dst v with
      | some fr' => some ⟨d.done ++ [o], d.recs ++ [⟨m, newsOf s'.h d.n (s'.n - d.n), .calm⟩], d.cores, fr', forceN s'.n⟩
      | none => none
    | none =>
      match o.op with
      | .load t a => match opnd P d.fr a with
        | some (.ptr b off) => match lookFirst P m d.recs d.n t b off (d.cores.take (d.cores.length - writesIn m d.recs 0)) with
          | some v => bif !belowAV d.n v then none else match put nt d.fr o.dst v with
            | some fr' => some ⟨d.done ++ [o], d.recs ++ [⟨m, [], .look ⟨t, b, off, v⟩⟩], d.cores, fr', d.n⟩
            | none => none
          | none => none
        | _ => none
      | _ =>
        bif !allWrites m d.recs 0 then none else
          match evOper P lo ih d.fr ⟨memOf d.core.h d.core.held m d.recs 0, d.n⟩ o with
          | some (v, s') => bif !Nat.ble d.n s'.n then none else match put nt d.fr o.dst v with
            | some fr' =>
              bif looksStay P ⟨s'.h, Nat.lor (Nat.lor d.core.held m) (2 ^ d.recs.length)⟩ m (d.recs ++ [⟨m, [], .writes⟩]) s'.n d.recs 0 then
                some ⟨d.done ++ [o], d.recs ++ [⟨m, [], .writes⟩], ⟨s'.h, Nat.lor (Nat.lor d.core.held m) (2 ^ d.recs.length)⟩ :: d.cores, fr', forceN s'.n⟩
              else none
            | none => none
          | none => none
def evDraw (P : Program) (lo nt : Nat) (ih : Nat → Job → Option Out) (ops : Array Oper) : List (Oper × Nat) → DSt → Option Out
  | [], d => some (.code .nrm d.fr ⟨memOf d.core.h d.core.held (2 ^ d.recs.length - 1) d.recs 0, d.n⟩)
  | (o, m) :: l, d => match evDrawOp P lo nt ih ops o m d with
    | some d' => evDraw P lo nt ih ops l d'
    | none => none
/-- what must come ahead of each operation; no two that may change places touch one another. -/
def planGo (ops : Array Oper) (done : List Oper) (ms : List Nat) : List Oper → Option (List (Oper × Nat))
  | [] => some []
  | o :: l => bif !allApart ops o (maskOf ms o.after.toList) done 0 || !Nat.blt (maskOf ms o.after.toList) (2 ^ ms.length) then none else
    match planGo ops (done ++ [o]) (ms ++ [maskOf ms o.after.toList]) l with
    | some r => some ((o, maskOf ms o.after.toList) :: r)
    | none => none
def evOpen (P : Program) (lo nt : Nat) (ih : Nat → Job → Option Out) (ops : Array Oper) (fr : Tr AV) (s : St) : Option Out :=
  match planGo ops [] [] ops.toList with
  | some l => evDraw P lo nt ih ops l ⟨[], [], [⟨s.h, 0⟩], fr, forceN s.n⟩
  | none => none
def oneOf : List AV → AV
  | [v] => v
  | l => .tup l
def exNrm : Ex → Bool
  | .exit _ => false
  | _ => true
def evF (P : Program) (ih : Nat → Job → Option Out) (lo : Nat) : Job → Option Out
  | .code nt c fr s => match c with
    | .skip => some (.code .nrm fr s)
    | .label _ => some (.code .nrm fr s)
    | .region _ ops draw => bif draw then (bif P.follows .mixedOrders then evOpen P lo nt ih ops fr s else none) else evOps P lo nt ih ops ops.toList fr s
    | .seq a b => match ih lo (.code nt a fr s) with
      | some (.code .nrm fr' s') => ih lo (.code nt b fr' s')
      | some (.code e fr' s') => some (.code e fr' s')
      | _ => none
    | .cond x a b => match opnd P fr x with
      | some (.bool t) => ih lo (.code nt (bif t then a else b) fr s)
      | _ => none
    | .block id c => match ih lo (.code nt c fr s) with
      | some (.code (.exit k) fr' s') => bif k == id then some (.code .nrm fr' s') else some (.code (.exit k) fr' s')
      | some (.code e fr' s') => some (.code e fr' s')
      | _ => none
    | .loop c => match ih lo (.code nt c fr s) with
      | some (.code .nrm fr' s') => ih lo (.code nt (.loop c) fr' s')
      | some (.code e fr' s') => some (.code e fr' s')
      | _ => none
    | .exit id => some (.code (.exit id) fr s)
    | .scope c => ih lo (.code nt c fr s)
    | .ret => some (.code .ret fr s)
    | _ => none
  | .call f args s => match P.funcs[f]? with
    | none => none
    | some fn => match fn.body with
      | none => none
      | some c => bif !Nat.ble args.length fn.ntmps then none else
        match ih lo (.code fn.ntmps c (startFr args) s) with
        | some (.code e fr' s') => bif exNrm e then
            match ress P s' fr' fn.results.toList with
            | some l => some (.call (oneOf l) s')
            | none => none
          else none
        | _ => none
def ev (P : Program) : Nat → Nat → Job → Option Out
  | 0, _, _ => none
  | n + 1, lo, j => evF P (ev P n) lo j
end Ev
end Go.Proofs.Ytnelncafocgfhaa
