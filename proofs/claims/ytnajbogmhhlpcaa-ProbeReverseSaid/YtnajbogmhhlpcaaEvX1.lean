/- A runner of Go code on an abstract memory, with no program in sight: values, memory, operations, code, calls. What it answers is proved of the model in the texts behind this one. The abstract memory and what it stands for. Steps of the abstract memory: a new block, a block put anew, loads, stores. Operations, one by one: what the model does where the runner answers. First: types, values, memory. Operations: numbers, texts, comparisons. Operations: conversions, places, slices, parts. -/
import Derived.WalkKit
import Derived.Below
import Derived.Laws.Tables
import Derived.ChangeKeysEq
import Derived.Laws.StructEq
import Derived.Laws.BytesString
import Derived.Laws.RangeString
import Derived.Laws.MakeOwn
namespace Go.Proofs.Ytnajbogmhhlpcaa
namespace Ev
/-- A trie's path. -/
inductive Pth where
  | h | o (p : Pth) | i (p : Pth)
inductive Tr (α : Type) where
  | lf
  | nd (l : Tr α) (v : Option α) (r : Tr α)
def Pth.next : Pth → Pth
  | .h => .o .h
  | .o p => .i p
  | .i p => .o p.next
def pathS : Nat → Pth
  | 0 => .o .h
  | n + 1 => (pathS n).next
def path : Nat → Pth
  | 0 => .h
  | n + 1 => pathS n
def Tr.get {α : Type} : Pth → Tr α → Option α
  | _, .lf => none
  | .h, .nd _ v _ => v
  | .o p, .nd l _ _ => Tr.get p l
  | .i p, .nd _ _ r => Tr.get p r
def Tr.set {α : Type} (x : Option α) : Pth → Tr α → Tr α
  | .h, .lf => .nd .lf x .lf
  | .o p, .lf => .nd (Tr.set x p .lf) none .lf
  | .i p, .lf => .nd .lf none (Tr.set x p .lf)
  | .h, .nd l _ r => .nd l x r
  | .o p, .nd l v r => .nd (Tr.set x p l) v r
  | .i p, .nd l v r => .nd l v (Tr.set x p r)
/-- A slice's capacity: known, or whatever an append's growth gave (elements of so many cells, up to the row's end; so many at least). -/
inductive ACap where
  | fix (c : Nat) | opn (size least : Nat)
/-- What is not known: a text that is none of these; a number a + b n (n: the number that is not known, or what its last 20 bits say); a number of a known remainder; a number of a range. -/
inductive Sym where
  | txt (id : Nat) (nes : List (List UInt8))
  | lin (low : Bool) (a b : Int)
  | res (n r : Int)
  | rng (k : IntKind) (lo hi : Int)
  deriving Inhabited
inductive AV where
  | sym (s : Sym)
  | int (k : IntKind) (n : Int)
  | bool (b : Bool)
  | str (s : List UInt8)
  | flt (k : FloatKind) (b : Nat)
  | ptr (b off : Nat)
  | nilp
  | slc (b off len : Nat) (cap : ACap)
  | nils
  | emp
  | map (b : Nat)
  | nilm
  | fn (f : FuncId) (cap : List AV)
  | nilf
  | ifc (t : TypeId) (v : AV)
  | nili
  | agg (l : List AV)
  | tup (l : List AV)
  deriving Inhabited
def AV.cells : AV → List AV
  | .agg l => l
  | v => [v]
def AV.scalar : AV → Bool
  | .agg _ | .tup _ => false
  | _ => true
inductive Blk where
  | cells (T n : Nat) (zs : List AV) (t : Tr AV) (opn rw : Bool)
  | map (l : List (AV × AV))
  | iter (s : List UInt8) (pos : Nat)
structure St where
  h : Tr Blk
  n : Nat
def ofCell : Value → Option AV
  | .bool b => some (.bool b)
  | .int k n => some (.int k n)
  | .float k b => some (.flt k b)
  | .string s => some (.str s.data.toList)
  | .pointer none => some .nilp
  | .slice none 0 0 => some .nils
  | .map none => some .nilm
  | .nilFunc => some .nilf
  | .nilIface => some .nili
  | _ => none
def ofCells : List Value → Option (List AV)
  | [] => some []
  | v :: l => match ofCell v with
    | some a => match ofCells l with
      | some r => some (a :: r)
      | none => none
    | none => none
def ofV : Value → Option AV
  | .agg cs => (ofCells cs.toList).map .agg
  | .tuple cs => (ofCells cs.toList).map .tup
  | v => ofCell v
/-- A type, as the runner wants it. -/
structure TI where
  d : TypeDesc
  size : Nat
  bytes : Nat
  zero : List AV
  zv : AV
def TI.isAgg (i : TI) : Bool :=
  match i.d with
  | .struct _ => true
  | .array _ _ => true
  | _ => false
def zeroOf : Option Value → Option AV
  | some v => ofV v
  | none => none
def ti (P : Program) (t : TypeId) : Option TI :=
  match P.info? t with
  | some i => match P.underlying t with
    | some d => match zeroOf i.zero with
      | some z => some ⟨d, i.size, i.bytes, z.cells, z⟩
      | none => none
    | none => none
  | none => none
def slotV : Option AV → AV
  | some v => v
  | none => .tup []
def opnd (P : Program) (fr : Tr AV) : Operand → Option AV
  | .tmp t => some (slotV (fr.get (path t)))
  | .const v => ofV v
  | .global g => bif Nat.blt g P.globals.size then some (.ptr g 0) else none
  | .func f => some (.fn f [])
/-- Cells. -/
def nthA : List AV → Nat → Option AV
  | [], _ => none
  | x :: _, 0 => some x
  | _ :: l, n + 1 => nthA l n
def cellAt (n : Nat) (zs : List AV) (t : Tr AV) (i : Nat) : Option AV :=
  bif Nat.blt i n then
    match t.get (path i) with
    | some v => some v
    | none => nthA zs (i % zs.length)
  else none
def loadN (n : Nat) (zs : List AV) (t : Tr AV) : Nat → Nat → Option (List AV)
  | _, 0 => some []
  | i, k + 1 => match cellAt n zs t i with
    | some v => match loadN n zs t (i + 1) k with
      | some l => some (v :: l)
      | none => none
    | none => none
def storeL (t : Tr AV) (i : Nat) : List AV → Tr AV
  | [] => t
  | v :: l => storeL (t.set (some v) (path i)) (i + 1) l
def allScalar : List AV → Bool
  | [] => true
  | v :: l => v.scalar && allScalar l
def rowOf (T : TypeId) (l : List AV) (opn : Bool) : Blk := .cells T l.length [] (storeL .lf 0 l) opn true
def St.new (s : St) (b : Blk) : St := ⟨s.h.set (some b) (path s.n), s.n + 1⟩
def loadAt (s : St) (i : TI) (b off : Nat) : Option AV :=
  match s.h.get (path b) with
  | some (.cells _ n zs t _ _) => bif i.isAgg then (loadN n zs t off i.size).map .agg else cellAt n zs t off
  | _ => none
def storeAt (s : St) (lo b off : Nat) (l : List AV) : Option St :=
  match s.h.get (path b) with
  | some (.cells T n zs t o true) => bif Nat.ble lo b && Nat.ble (off + l.length) n && allScalar l then some ⟨s.h.set (some (.cells T n zs (storeL t off l) o true)) (path b), s.n⟩ else none
  | _ => none
def partAV (i : TI) (cs : List AV) (off : Nat) : Option AV :=
  bif i.isAgg then (bif Nat.ble (off + i.size) cs.length then some (.agg ((cs.drop off).take i.size)) else none) else nthA cs off
def putParts (place : Nat → Option (Nat × Nat)) (cells : List AV) : List (Nat × AV) → Option (List AV)
  | [] => some cells
  | (i, v) :: r => match place i with
    | none => none
    | some (off, size) =>
      bif v.cells.length == size && Nat.ble (off + size) cells.length then putParts place (cells.take off ++ v.cells ++ cells.drop (off + size)) r else none
def opnds (P : Program) (fr : Tr AV) : List Operand → Option (List AV)
  | [] => some []
  | x :: l => match opnd P fr x with
    | some v => match opnds P fr l with
      | some r => some (v :: r)
      | none => none
    | none => none
def opndParts (P : Program) (fr : Tr AV) : List (Nat × Operand) → Option (List (Nat × AV))
  | [] => some []
  | (i, x) :: l => match opnd P fr x with
    | some v => match opndParts P fr l with
      | some r => some ((i, v) :: r)
      | none => none
    | none => none
def sizesOf (P : Program) : List Field → Option (List (Nat × Nat))
  | [] => some []
  | f :: l => match ti P f.type with
    | some i => match sizesOf P l with
      | some r => some ((f.offset, i.size) :: r)
      | none => none
    | none => none
def rep (zs : List AV) : Nat → List AV
  | 0 => []
  | n + 1 => zs ++ rep zs n
/-- Numbers. -/
def wrapK (k : IntKind) (n : Int) : Int :=
  match k, n with
  | .i64, .ofNat m => bif Nat.blt m 9223372036854775808 then .ofNat m else IntKind.i64.wrap n
  | k, n => k.wrap n
def binInt (op : BinOp) (k : IntKind) (x y : Int) : Option AV :=
  match op with
  | .add => some (.int k (wrapK k (x + y)))
  | .sub => some (.int k (wrapK k (x - y)))
  | .mul => some (.int k (wrapK k (x * y)))
  | .quo => bif y == 0 then none else some (.int k (wrapK k (x.tdiv y)))
  | .rem => bif y == 0 then none else some (.int k (x.tmod y))
  | .and => some (.int k (k.wrap (BitVec.ofInt k.bits x &&& BitVec.ofInt k.bits y).toNat))
  | .or => some (.int k (k.wrap (BitVec.ofInt k.bits x ||| BitVec.ofInt k.bits y).toNat))
  | .xor => some (.int k (k.wrap (BitVec.ofInt k.bits x ^^^ BitVec.ofInt k.bits y).toNat))
  | .andNot => some (.int k (k.wrap (BitVec.ofInt k.bits x &&& ~~~ BitVec.ofInt k.bits y).toNat))
  | .eql => some (.bool (x == y))
  | .neq => some (.bool (x != y))
  | .lss => some (.bool (decide (x < y)))
  | .leq => some (.bool (decide (x ≤ y)))
  | .gtr => some (.bool (decide (x > y)))
  | .geq => some (.bool (decide (x ≥ y)))
  | _ => none
def shiftInt (op : BinOp) (k : IntKind) (x y : Int) : Option AV :=
  bif decide (y < 0) then none else
  match op with
  | .shl => some (.int k (k.wrap (x * 2 ^ (min y.toNat k.bits))))
  | .shr => some (.int k (x.fdiv (2 ^ (min y.toNat k.bits))))
  | _ => none
def sameBytes : List UInt8 → List UInt8 → Bool
  | [], [] => true
  | a :: x, b :: y => Nat.beq a.toNat b.toNat && sameBytes x y
  | _, _ => false
def lessBytes : List UInt8 → List UInt8 → Bool
  | _, [] => false
  | [], _ :: _ => true
  | a :: x, b :: y => Nat.blt a.toNat b.toNat || (Nat.beq a.toNat b.toNat && lessBytes x y)
def binStr (op : BinOp) (x y : List UInt8) : Option AV :=
  match op with
  | .add => bif Nat.blt (x.length + y.length) 9223372036854775807 then some (.str (x ++ y)) else none
  | .eql => some (.bool (sameBytes x y))
  | .neq => some (.bool (!sameBytes x y))
  | .lss => some (.bool (lessBytes x y))
  | .leq => some (.bool (lessBytes x y || sameBytes x y))
  | .gtr => some (.bool (!(lessBytes x y || sameBytes x y)))
  | .geq => some (.bool (!lessBytes x y))
  | _ => none
/-- '==' of what is no number and no text. -/
def eqAV : AV → AV → Option Bool
  | .bool a, .bool b => some (a == b)
  | .nilp, .nilp => some true
  | .nilp, .ptr _ _ => some false
  | .ptr _ _, .nilp => some false
  | .nils, .nils => some true
  | .nils, .slc .. => some false
  | .slc .., .nils => some false
  | .nils, .emp => some false
  | .emp, .nils => some false
  | .nilm, .nilm => some true
  | .nilm, .map _ => some false
  | .map _, .nilm => some false
  | .nilf, .nilf => some true
  | .nilf, .fn .. => some false
  | .fn .., .nilf => some false
  | .nili, .ifc .. => some false
  | .ifc .., .nili => some false
  | _, _ => none
/-- the types at which eqAV answers. -/
def eqDesc : TypeDesc → AV → Bool
  | .bool, .bool _ => true
  | .pointer _, .nilp | .pointer _, .ptr .. => true
  | .slice _, .nils | .slice _, .slc .. | .slice _, .emp => true
  | .map .., .nilm | .map .., .map _ => true
  | .func .., .nilf | .func .., .fn .. => true
  | .interface _, .nili | .interface _, .ifc .. => true
  | _, _ => false
/-- two arrays of whole numbers. -/
def eqInts : Nat → List AV → List AV → Option Bool
  | 0, [], [] => some true
  | n + 1, .int k a :: x, .int k' b :: y => bif k == k' then (bif a == b then eqInts n x y else some false) else none
  | _, _, _ => none
def eqBig (P : Program) (t : TypeId) (d : TypeDesc) (x y : AV) : Option Bool :=
  match d, x, y with
  | .array n e, .agg l, .agg r => match ti P e with
    | some j => match j.d with
      | .int _ => bif j.size == 1 && !P.eqGuardType P.depth t then eqInts n l r else none
      | _ => none
    | none => none
  | .pointer e, .ptr a k, .ptr b m => match ti P e with
    | some j => bif j.size == 0 then none else (bif a == b then some (k == m) else none)
    | none => none
  | _, _, _ => none
def eqAt (P : Program) (t : TypeId) (x y : AV) : Option Bool :=
  match ti P t with
  | some i => match eqBig P t i.d x y with
    | some b => some b
    | none => bif eqDesc i.d x && eqDesc i.d y then eqAV x y else none
  | none => none
/-- what is not known, with a number or a text. -/
def amongB (b : List UInt8) : List (List UInt8) → Bool
  | [] => false
  | x :: l => sameBytes b x || amongB b l
def apart (low : Bool) (a b : Int) : Bool :=
  low && ((decide (0 < a) && decide (0 ≤ b) && decide (a + b * 1048576 < 9223372036854775808)) || (decide (a < 0) && decide (b ≤ 0) && decide (-9223372036854775808 < a + b * 1048576)))
def inI64 (n : Int) : Bool := decide (-9223372036854775808 ≤ n) && decide (n < 9223372036854775808)
def eqSym (op : BinOp) (b : Bool) : Option AV :=
  match op with
  | .eql => some (.bool b)
  | .neq => some (.bool (!b))
  | _ => none
def rngInt (op : BinOp) (lo hi n : Int) : Option AV :=
  match op with
  | .eql => bif decide (n < lo) || decide (hi < n) then some (.bool false) else none
  | .neq => bif decide (n < lo) || decide (hi < n) then some (.bool true) else none
  | .lss => bif decide (hi < n) then some (.bool true) else bif decide (n ≤ lo) then some (.bool false) else none
  | .leq => bif decide (hi ≤ n) then some (.bool true) else bif decide (n < lo) then some (.bool false) else none
  | .gtr => bif decide (n < lo) then some (.bool true) else bif decide (hi ≤ n) then some (.bool false) else none
  | .geq => bif decide (n ≤ lo) then some (.bool true) else bif decide (hi < n) then some (.bool false) else none
  | _ => none
def intRng (op : BinOp) (n lo hi : Int) : Option AV :=
  match op with
  | .eql => rngInt .eql lo hi n
  | .neq => rngInt .neq lo hi n
  | .lss => rngInt .gtr lo hi n
  | .leq => rngInt .geq lo hi n
  | .gtr => rngInt .lss lo hi n
  | .geq => rngInt .leq lo hi n
  | _ => none
def symBin (op : BinOp) (x y : AV) : Option AV :=
  match x, y with
  | .sym (.txt _ l), .str b => bif amongB b l then eqSym op false else none
  | .str b, .sym (.txt _ l) => bif amongB b l then eqSym op false else none
  | .sym (.txt i _), .sym (.txt j _) => bif Nat.beq i j then eqSym op true else none
  | .sym (.lin l a b), .int .i64 n => match op with
    | .add => some (.sym (.lin l (a + n) b))
    | .sub => some (.sym (.lin l (a - n) b))
    | .mul => some (.sym (.lin l (a * n) (b * n)))
    | .and => bif !l && decide (a = 0) && decide (b = 1) && decide (n = 1048575) then some (.sym (.lin true 0 1)) else none
    | _ => bif apart l (a - n) b && inI64 n then eqSym op false else none
  | .int .i64 n, .sym (.lin l a b) => match op with
    | .add => some (.sym (.lin l (n + a) b))
    | .sub => some (.sym (.lin l (n - a) (0 - b)))
    | .mul => some (.sym (.lin l (n * a) (n * b)))
    | _ => bif apart l (a - n) b && inI64 n then eqSym op false else none
  | .sym (.lin l a b), .sym (.lin l' a' b') => bif l == l' then (match op with
    | .add => some (.sym (.lin l (a + a') (b + b')))
    | .sub => some (.sym (.lin l (a - a') (b - b')))
    | _ => bif decide (a = a') && decide (b = b') then eqSym op true else bif apart l (a - a') (b - b') then eqSym op false else none) else none
  | .sym (.res m r), .int .i64 n => match op with
    | .rem => bif decide (n = m) && !decide (n = 0) then some (.int .i64 r) else none
    | _ => none
  | .sym (.rng k lo hi), .int k' n => bif k == k' then rngInt op lo hi n else none
  | .int k' n, .sym (.rng k lo hi) => bif k == k' then intRng op n lo hi else none
  | _, _ => none
def binAV (P : Program) (op : BinOp) (t : TypeId) (x y : AV) : Option AV :=
  match x, y with
  | .sym s, y => symBin op (.sym s) y
  | x, .sym s => symBin op x (.sym s)
  | .int k a, .int k' b => match op with
    | .shl | .shr => shiftInt op k a b
    | _ => bif k == k' then binInt op k a b else none
  | .str a, .str b => binStr op a b
  | x, y => match op with
    | .eql => match eqAt P t x y with
      | some b => some (.bool b)
      | none => none
    | .neq => match eqAt P t x y with
      | some b => some (.bool (!b))
      | none => none
    | _ => none
def unAV : UnOp → AV → Option AV
  | .neg, .int k n => some (.int k (wrapK k (0 - n)))
  | .not, .bool b => some (.bool (!b))
  | _, _ => none
def newSlice (s : St) (T : TypeId) (l : List AV) (len : Nat) (cap : ACap) (opn : Bool) : Option (AV × St) :=
  some (.slc s.n 0 len cap, s.new (rowOf T l opn))
def convAV (P : Program) (src dst : TypeId) (x : AV) : Option AV :=
  match ti P src, ti P dst, x with
  | some _, some j, .int _ n => match j.d with
    | .int k => some (.int k (wrapK k n))
    | _ => none
  | some _, some j, .str s => match j.d with
    | .string => some (.str s)
    | _ => none
  | some _, some j, .sym (.txt i l) => match j.d with
    | .string => some (.sym (.txt i l))
    | _ => none
  | some _, some j, .sym (.lin l a b) => match j.d with
    | .int .i64 => some (.sym (.lin l a b))
    | _ => none
  | _, _, _ => none
def bytesOf : List AV → Option (List UInt8)
  | [] => some []
  | .int .u8 (.ofNat n) :: l => match bytesOf l with
    | some r => bif Nat.blt n 256 then some (UInt8.ofNat n :: r) else none
    | none => none
  | _ :: _ => none
/-- the bounds of a slice expression: low, high, max. -/
def bound (x : AV) (y : Nat) : Option Nat :=
  match x with
  | .int _ i => bif decide (0 ≤ i) && decide (i ≤ (y : Int)) then some i.toNat else none
  | _ => none
def boundOr (x : Option AV) (y d : Nat) : Option Nat :=
  match x with
  | some v => bound v y
  | none => some d
def opndOpt (P : Program) (fr : Tr AV) : Option Operand → Option (Option AV)
  | none => some none
  | some x => match opnd P fr x with
    | some v => some (some v)
    | none => none
def sliceAV (P : Program) (t : TypeId) (x : AV) (lo hi mx : Option AV) : Option AV :=
  match ti P t with
  | none => none
  | some i => match i.d, x with
    | .string, .str s => match mx with
      | some _ => none
      | none => match boundOr hi s.length s.length with
        | none => none
        | some h => match boundOr lo h 0 with
          | none => none
          | some l => some (.str ((s.drop l).take (h - l)))
    | .array n e, .ptr b off => match ti P e with
      | none => none
      | some j => match boundOr mx n n with
        | none => none
        | some m => match boundOr hi m n with
          | none => none
          | some h => match boundOr lo h 0 with
            | none => none
            | some l => bif (mx.isSome && hi.isNone) then none else some (.slc b (bif m == l then off else off + l * j.size) (h - l) (.fix (m - l)))
    | .slice e, .slc b off len (.fix cap) => match ti P e with
      | none => none
      | some j => match boundOr mx cap cap with
        | none => none
        | some m => match boundOr hi m len with
          | none => none
          | some h => match boundOr lo h 0 with
            | none => none
            | some l => bif (mx.isSome && hi.isNone) then none else some (.slc b (bif m == l then off else off + l * j.size) (h - l) (.fix (m - l)))
    | .slice e, .slc b off len (.opn size least) => match ti P e with
      | none => none
      | some j => bif j.size == size && Nat.ble len least then
          match mx with
          | some v => match bound v least with
            | none => none
            | some m => match boundOr hi m len with
              | none => none
              | some h => match boundOr lo h 0 with
                | none => none
                | some l => bif hi.isNone then none else some (.slc b (bif m == l then off else off + l * size) (h - l) (.fix (m - l)))
          | none => match boundOr hi least len with
            | none => none
            | some h => match boundOr lo h 0 with
              | none => none
              | some l => bif l == 0 then some (.slc b off h (.opn size least)) else bif Nat.blt l least then some (.slc b (off + l * size) (h - l) (.opn size (least - l))) else some .emp
        else none
    | .slice e, .emp => match ti P e with
      | none => none
      | some _ => match mx with
        | some _ => none
        | none => match boundOr hi 0 0 with
          | none => none
          | some h => match boundOr lo h 0 with
            | none => none
            | some _ => some .emp
    | .slice e, .nils => match ti P e with
      | none => none
      | some _ => match boundOr mx 0 0 with
        | none => none
        | some m => match boundOr hi m 0 with
          | none => none
          | some h => match boundOr lo h 0 with
            | none => none
            | some _ => bif (mx.isSome && hi.isNone) then none else some .nils
    | _, _ => none
def zeroRow (T : TypeId) (n : Nat) (zs : List AV) : Blk := .cells T n zs .lf false true
/-- Maps: keys that are texts or whole numbers. -/
def keySame : AV → AV → Option Bool
  | .str a, .str b => some (sameBytes a b)
  | .int k a, .int k' b => bif k == k' then some (a == b) else none
  | .bool a, .bool b => some (a == b)
  | .sym (.txt _ l), .str b => bif amongB b l then some false else none
  | _, _ => none
def keyDesc : TypeDesc → AV → Bool
  | .string, .str _ => true
  | .string, .sym (.txt ..) => true
  | .int k, .int k' _ => k == k'
  | .bool, .bool _ => true
  | _, _ => false
def findE (k : AV) : List (AV × AV) → Option (Option AV)
  | [] => some none
  | (a, v) :: l => match keySame k a with
    | some true => some (some v)
    | some false => findE k l
    | none => none
def putE (k v : AV) : List (AV × AV) → Option (List (AV × AV))
  | [] => some [(k, v)]
  | (a, u) :: l => match keySame k a with
    | some true => some ((a, v) :: l)
    | some false => match putE k v l with
      | some r => some ((a, u) :: r)
      | none => none
    | none => none
def foundE (s : St) (m k : AV) : Option (Option AV) :=
  match m with
  | .nilm => some none
  | .map r => match s.h.get (path r) with
    | some (.map l) => findE k l
    | _ => none
  | _ => none
def lenAV : AV → Option Nat
  | .nils => some 0
  | .emp => some 0
  | .slc _ _ n _ => some n
  | .str s => some s.length
  | _ => none
/-- the first n elements (of so many cells) of a slice or text. -/
def firstAV (s : St) (size n : Nat) : AV → Option (List AV)
  | .nils => some []
  | .emp => bif n * size == 0 then some [] else none
  | .slc b off _ _ => match s.h.get (path b) with
    | some (.cells _ m zs t _ _) => loadN m zs t off (n * size)
    | _ => none
  | .str bs => some ((bs.take n).map fun c => .int .u8 c.toNat)
  | _ => none
/-- 'append(nil, make([]T, n)...)', as the translator words it. -/
def growAV (P : Program) (s : St) (t : TypeId) (x y : AV) : Option (AV × St) :=
  match ti P t with
  | none => none
  | some i => match i.d, x, y with
    | .slice e, .nils, .int _ (.ofNat m) => match ti P e with
      | none => none
      | some j => bif Nat.blt 0 j.size && (j.zero.length == j.size) && Nat.ble j.bytes 1048576 && Nat.blt 0 m && Nat.ble m 1048576 then
          some (.slc s.n 0 m (.opn j.size m), s.new (.cells e (m * j.size) j.zero .lf true true))
        else none
    | _, _, _ => none
def appendAV (P : Program) (s : St) (lo : Nat) (t xt : TypeId) (x y : AV) : Option (AV × St) :=
  match ti P t with
  | none => none
  | some i => match ti P xt with
    | none => none
    | some xi => match i.d, xi.d with
      | _, .int _ => growAV P s t x y
      | .slice e, _ => match ti P e with
        | none => none
        | some j => match lenAV y with
          | none => none
          | some m => match firstAV s j.size m y with
            | none => none
            | some news => bif !(Nat.blt 0 j.size && (j.zero.length == j.size) && Nat.ble (j.bytes) 1048576 && (news.length == m * j.size) && allScalar news) then none else match x with
              | .nils => bif m == 0 then some (.nils, s) else
                  bif Nat.ble m 1048576 then newSlice s e news m (.opn j.size m) true else none
              | .slc b off len (.fix cap) =>
                bif Nat.ble (len + m) cap then
                  match storeAt s lo b (off + len * j.size) news with
                  | some s' => some (.slc b off (len + m) (.fix cap), s')
                  | none => none
                else match firstAV s j.size len x with
                  | none => none
                  | some old => bif Nat.ble (len + m) 1048576 then newSlice s e (old ++ news) (len + m) (.opn j.size (len + m)) true else none
              | .slc b off len (.opn size least) => bif !(size == j.size) then none else bif Nat.ble (len + m) least then
                  match storeAt s lo b (off + len * j.size) news with
                  | some s' => some (.slc b off (len + m) (.opn size least), s')
                  | none => none
                else match s.h.get (path b) with
                | some (.cells T n zs tr true true) =>
                  bif Nat.ble lo b && (off == 0) && (n == len * j.size) && (T == e) && Nat.ble (len + m) 1048576 then
                    some (.slc s.n 0 (len + m) (.opn j.size (len + m)), ⟨(s.h.set none (path b)).set (some (.cells T (n + m * j.size) zs (storeL tr n news) true true)) (path s.n), s.n + 1⟩)
                  else none
                | _ => none
              | _ => none
      | _, _ => none
def callBuiltin (P : Program) (s : St) (lo : Nat) (b : Builtin) (ts : List TypeId) (args : List AV) : Option (AV × St) :=
  match b, ts, args with
  | .append, t :: xt :: _, x :: y :: _ => appendAV P s lo t xt x y
  | .len, t :: _, x :: _ => match ti P t with
    | none => none
    | some i => match i.d, x with
      | .string, .str b => some (.int .i64 b.length, s)
      | .array n _, _ => some (.int .i64 n, s)
      | .slice _, .slc _ _ n _ => some (.int .i64 n, s)
      | .slice _, .nils => some (.int .i64 0, s)
      | .slice _, .emp => some (.int .i64 0, s)
      | .map .., .nilm => some (.int .i64 0, s)
      | .map .., .map r => match s.h.get (path r) with
        | some (.map l) => some (.int .i64 l.length, s)
        | _ => none
      | _, _ => none
  | .cap, t :: _, x :: _ => match ti P t with
    | none => none
    | some i => match i.d, x with
      | .array n _, _ => some (.int .i64 n, s)
      | .slice _, .slc _ _ _ (.fix c) => some (.int .i64 c, s)
      | .slice _, .nils => some (.int .i64 0, s)
      | _, _ => none
  | .min, _, [.int k x, .int k' y] => bif k == k' then some (.int k (bif decide (y < x) then y else x), s) else none
  | .max, _, [.int k x, .int k' y] => bif k == k' then some (.int k (bif decide (y > x) then y else x), s) else none
  | .copy, t :: _, x :: y :: _ => match ti P t with
    | none => none
    | some i => match i.d with
      | .slice e => match ti P e with
        | none => none
        | some j => match lenAV x, lenAV y with
          | some dl, some sl => match firstAV s j.size (Nat.min sl dl) y with
            | none => none
            | some news => match x with
              | .nils => some (.int .i64 0, s)
              | .slc b off _ _ => match storeAt s lo b off news with
                | some s' => some (.int .i64 (Nat.min sl dl : Nat), s')
                | none => none
              | _ => none
          | _, _ => none
      | _ => none
  | .clear, t :: _, [x] => match ti P t with
    | none => none
    | some i => match i.d with
      | .slice e => match ti P e with
        | none => none
        | some j => match x with
          | .nils => some (.tup [], s)
          | .emp => some (.tup [], s)
          | .slc b off len _ => match storeAt s lo b off (rep j.zero len) with
            | some s' => some (.tup [], s')
            | none => none
          | _ => none
      | _ => none
  | _, _, _ => none
def nextAV (s : St) (b pos : Nat) : List UInt8 → Option (AV × St)
  | [] => some (.tup [.bool false], s)
  | c :: r => bif Nat.blt c.toNat 128 then
      some (.tup [.bool true, .int .i64 pos, .int .i32 c.toNat], ⟨s.h.set (some (.iter r (pos + 1))) (path b), s.n⟩)
    else none
def updAV (P : Program) (lo : Nat) (s : St) (t : TypeId) (r : Nat) (kv v : AV) : Option (AV × St) :=
  match ti P t with
  | none => none
  | some i => match i.d with
    | .map kt _ => match ti P kt with
      | none => none
      | some ki => bif keyDesc ki.d kv && Nat.ble lo r then
          match s.h.get (path r) with
          | some (.map l) => match putE kv v l with
            | some l' => some (.tup [], ⟨s.h.set (some (.map l')) (path r), s.n⟩)
            | none => none
          | _ => none
        else none
    | _ => none
/-! Operations that are no calls of Go functions, one by one: the value, and the memory. -/
set_option linter.unusedVariables false
def evMove (P : Program) (lo : Nat) (fr : Tr AV) (s : St) (x : Operand) : Option (AV × St) :=
  match opnd P fr x with
  | some v => some (v, s)
  | none => none
def evAssign (P : Program) (lo : Nat) (fr : Tr AV) (s : St) (x : Operand) : Option (AV × St) :=
  match opnd P fr x with
  | some v => some (v, s)
  | none => none
def evPick (P : Program) (lo : Nat) (fr : Tr AV) (s : St) (c : Operand) (a : Operand) (b : Operand) : Option (AV × St) :=
  match opnd P fr c with
  | some (.bool t) => match opnd P fr (bif t then a else b) with
    | some v => some (v, s)
    | none => none
  | _ => none
def evAlloc (P : Program) (lo : Nat) (fr : Tr AV) (s : St) (T : TypeId) : Option (AV × St) :=
  match ti P T with
  | some i => some (.ptr s.n 0, s.new (zeroRow T i.zero.length i.zero))
  | none => none
def evBox (P : Program) (lo : Nat) (fr : Tr AV) (s : St) (T : TypeId) (x : Operand) : Option (AV × St) :=
  match opnd P fr x with
  | some v => some (.ptr s.n 0, s.new (rowOf T v.cells false))
  | none => none
def evBuild (P : Program) (lo : Nat) (fr : Tr AV) (s : St) (t : TypeId) (parts : Array (Nat × Operand)) : Option (AV × St) :=
  match ti P t with
  | none => none
  | some i => match opndParts P fr parts.toList with
    | none => none
    | some ps => match i.d with
      | .struct fs => match sizesOf P fs.toList with
        | none => none
        | some pl => match putParts (fun k => pl[k]?) i.zero ps with
          | none => none
          | some l => some (.agg l, s)
      | .array _ e => match ti P e with
        | none => none
        | some j => match putParts (fun k => some (k * j.size, j.size)) i.zero ps with
          | none => none
          | some l => some (.agg l, s)
      | _ => none
def evBuildSlice (P : Program) (lo : Nat) (fr : Tr AV) (s : St) (t : TypeId) (len : Nat) (parts : Array (Nat × Operand)) : Option (AV × St) :=
  match ti P t with
  | none => none
  | some i => match opndParts P fr parts.toList with
    | none => none
    | some ps => match i.d with
      | .slice e => match ti P e with
        | none => none
        | some j => bif Nat.ble (len * j.size) 1048576 && (j.zero.length == j.size) then
            match putParts (fun k => some (k * j.size, j.size)) (rep j.zero len) ps with
            | none => none
            | some l => newSlice s e l len (.fix len) false
          else none
      | _ => none
def evLoad (P : Program) (lo : Nat) (fr : Tr AV) (s : St) (t : TypeId) (a : Operand) : Option (AV × St) :=
  match opnd P fr a with
  | some (.ptr b off) => match ti P t with
    | none => none
    | some i => match loadAt s i b off with
      | some v => some (v, s)
      | none => none
  | _ => none
def evStore (P : Program) (lo : Nat) (fr : Tr AV) (s : St) (t : TypeId) (a : Operand) (x : Operand) : Option (AV × St) :=
  match opnd P fr a with
  | some (.ptr b off) => match ti P t with
    | none => none
    | some i => match opnd P fr x with
      | none => none
      | some v => bif v.cells.length == i.size then
          match storeAt s lo b off v.cells with
          | some s' => some (.tup [], s')
          | none => none
        else none
  | _ => none
def evNilCheck (P : Program) (lo : Nat) (fr : Tr AV) (s : St) (x : Operand) : Option (AV × St) :=
  match opnd P fr x with
  | some (.ptr b off) => some (.ptr b off, s)
  | some (.fn f cap) => some (.fn f cap, s)
  | some (.slc b o l c) => some (.slc b o l c, s)
  | some (.map b) => some (.map b, s)
  | _ => none
def evBinOp (P : Program) (lo : Nat) (fr : Tr AV) (s : St) (op : BinOp) (t : TypeId) (x : Operand) (y : Operand) : Option (AV × St) :=
  match opnd P fr x with
  | none => none
  | some a => match opnd P fr y with
    | none => none
    | some b => match binAV P op t a b with
      | some v => some (v, s)
      | none => none
def evUnOp (P : Program) (lo : Nat) (fr : Tr AV) (s : St) (op : UnOp) (x : Operand) : Option (AV × St) :=
  match opnd P fr x with
  | none => none
  | some a => match unAV op a with
    | some v => some (v, s)
    | none => none
def evConvert (P : Program) (lo : Nat) (fr : Tr AV) (s : St) (src : TypeId) (dst : TypeId) (x : Operand) : Option (AV × St) :=
  match opnd P fr x with
  | none => none
  | some a => match a with
    | .slc _ _ n _ => match ti P src, ti P dst with
      | some i, some j => match i.d, j.d with
        | .slice e, .string => match ti P e with
          | some k => match k.d with
            | .int .u8 => match firstAV s 1 n a with
              | some l => match bytesOf l with
                | some b => some (.str b, s)
                | none => none
              | none => none
            | _ => none
          | none => none
        | _, _ => none
      | _, _ => none
    | _ => match convAV P src dst a with
      | some v => some (v, s)
      | none => none
def evMakeInterface (P : Program) (lo : Nat) (fr : Tr AV) (s : St) (t : TypeId) (x : Operand) : Option (AV × St) :=
  match ti P t with
  | none => none
  | some i => match i.d with
    | .interface _ => none
    | _ => match opnd P fr x with
      | some v => some (.ifc t v, s)
      | none => none
def evMakeFunc (P : Program) (lo : Nat) (fr : Tr AV) (s : St) (f : FuncId) (first : Array Operand) (captured : Array Operand) : Option (AV × St) :=
  bif first.isEmpty then
    match opnds P fr captured.toList with
    | some l => some (.fn f l, s)
    | none => none
  else none
def evMakeMap (P : Program) (lo : Nat) (fr : Tr AV) (s : St) (t : TypeId) : Option (AV × St) :=
  match ti P t with
  | none => none
  | some _ => some (.map s.n, s.new (.map []))
def evMakeSlice (P : Program) (lo : Nat) (fr : Tr AV) (s : St) (t : TypeId) (l : Operand) (c : Operand) : Option (AV × St) :=
  match ti P t with
  | none => none
  | some i => match i.d with
    | .slice e => match ti P e with
      | none => none
      | some j => match opnd P fr l, opnd P fr c with
        | some (.int _ len), some (.int _ cap) =>
          bif decide (0 ≤ len) && decide (len ≤ cap) && decide (cap ≤ 1048576) && Nat.ble j.bytes 1048576 && (Nat.blt 0 j.zero.length && (j.zero.length == j.size)) then
            some (.slc s.n 0 len.toNat (.fix cap.toNat), s.new (zeroRow e (cap.toNat * j.size) j.zero))
          else none
        | _, _ => none
    | _ => none
def evSlice (P : Program) (lo : Nat) (fr : Tr AV) (s : St) (t : TypeId) (x : Operand) (lo' : Option Operand) (hi : Option Operand) (mx : Option Operand) : Option (AV × St) :=
  match opnd P fr x with
  | none => none
  | some v => match opndOpt P fr lo' with
    | none => none
    | some l => match opndOpt P fr hi with
      | none => none
      | some h => match opndOpt P fr mx with
        | none => none
        | some m => match sliceAV P t v l h m with
          | some r => some (r, s)
          | none => none
def evFieldAddr (P : Program) (lo : Nat) (fr : Tr AV) (s : St) (st : TypeId) (x : Operand) (f : Nat) : Option (AV × St) :=
  match ti P st with
  | none => none
  | some i => match i.d with
    | .struct fs => match fs[f]? with
      | none => none
      | some fd => match ti P fd.type with
        | none => none
        | some j => bif j.size == 0 then none else
          match opnd P fr x with
          | some (.ptr b off) => some (.ptr b (off + fd.offset), s)
          | _ => none
    | _ => none
def evField (P : Program) (lo : Nat) (fr : Tr AV) (s : St) (t : TypeId) (x : Operand) (f : Nat) : Option (AV × St) :=
  match ti P t with
  | none => none
  | some i => match i.d with
    | .struct fs => match fs[f]? with
      | none => none
      | some fd => match ti P fd.type with
        | none => none
        | some j => match opnd P fr x with
          | some (.agg cs) => match partAV j cs fd.offset with
            | some v => some (v, s)
            | none => none
          | _ => none
    | _ => none
def evIndexAddr (P : Program) (lo : Nat) (fr : Tr AV) (s : St) (t : TypeId) (x : Operand) (ix : Operand) : Option (AV × St) :=
  match opnd P fr ix with
  | some (.int _ k) => match ti P t with
    | none => none
    | some i => match i.d, opnd P fr x with
      | .array len e, some (.ptr b off) => match ti P e with
        | none => none
        | some j => bif decide (0 ≤ k) && decide (k < (len : Int)) then some (.ptr b (off + k.toNat * j.size), s) else none
      | .slice e, some (.slc b off len _) => match ti P e with
        | none => none
        | some j => bif decide (0 ≤ k) && decide (k < (len : Int)) then some (.ptr b (off + k.toNat * j.size), s) else none
      | _, _ => none
  | _ => none
def evIndex (P : Program) (lo : Nat) (fr : Tr AV) (s : St) (t : TypeId) (x : Operand) (ix : Operand) : Option (AV × St) :=
  match opnd P fr ix with
  | some (.int _ k) => match ti P t with
    | none => none
    | some i => match i.d, opnd P fr x with
      | .array len e, some (.agg cs) => match ti P e with
        | none => none
        | some j => bif decide (0 ≤ k) && decide (k < (len : Int)) then
            match partAV j cs (k.toNat * j.size) with
            | some v => some (v, s)
            | none => none
          else none
      | .string, some (.str bs) => bif decide (0 ≤ k) then
          match bs[k.toNat]? with
          | some c => some (.int .u8 c.toNat, s)
          | none => none
        else none
      | _, _ => none
  | _ => none
def evLookup (P : Program) (lo : Nat) (fr : Tr AV) (s : St) (t : TypeId) (x : Operand) (ix : Operand) (ok : Bool) : Option (AV × St) :=
  match ti P t with
  | none => none
  | some i => match i.d with
    | .map kt et => match ti P kt, ti P et, opnd P fr x, opnd P fr ix with
      | some ki, some ei, some m, some k => bif keyDesc ki.d k then
          match foundE s m k with
          | none => none
          | some (some v) => some (bif ok then .tup [v, .bool true] else v, s)
          | some none => some (bif ok then .tup [ei.zv, .bool false] else ei.zv, s)
        else none
      | _, _, _, _ => none
    | _ => none
def evMapUpdate (P : Program) (lo : Nat) (fr : Tr AV) (s : St) (t : TypeId) (m : Operand) (k : Operand) (x : Operand) : Option (AV × St) :=
  match opnd P fr m, opnd P fr k, opnd P fr x with
  | some (.map r), some kv, some v => updAV P lo s t r kv v
  | _, _, _ => none
def evRange (P : Program) (lo : Nat) (fr : Tr AV) (s : St) (t : TypeId) (x : Operand) : Option (AV × St) :=
  match ti P t with
  | none => none
  | some i => match i.d, opnd P fr x with
    | .string, some (.str bs) => some (.ptr s.n 0, s.new (.iter bs 0))
    | _, _ => none
def evNext (P : Program) (lo : Nat) (fr : Tr AV) (s : St) (it : Operand) : Option (AV × St) :=
  match opnd P fr it with
  | some (.ptr b 0) => bif Nat.ble lo b then
      match s.h.get (path b) with
      | some (.iter bs pos) => nextAV s b pos bs
      | _ => none
    else none
  | _ => none
def evExtract (P : Program) (lo : Nat) (fr : Tr AV) (s : St) (x : Operand) (k : Nat) : Option (AV × St) :=
  match opnd P fr x with
  | some (.tup l) => match l[k]? with
    | some v => some (v, s)
    | none => none
  | _ => none
def evCall (P : Program) (lo : Nat) (fr : Tr AV) (s : St) (c : Call) : Option (AV × St) :=
  match c.callee with
  | .builtin b => match opnds P fr c.args.toList with
    | some l => callBuiltin P s lo b c.argTypes.toList l
    | none => none
  | _ => none
def evOp (P : Program) (lo : Nat) (fr : Tr AV) (s : St) (op : Op) : Option (AV × St) :=
  match op with
  | .move x => evMove P lo fr s x
  | .assign x => evAssign P lo fr s x
  | .pick c a b => evPick P lo fr s c a b
  | .alloc T => evAlloc P lo fr s T
  | .box T x => evBox P lo fr s T x
  | .build t parts => evBuild P lo fr s t parts
  | .buildSlice t len parts => evBuildSlice P lo fr s t len parts
  | .load t a => evLoad P lo fr s t a
  | .store t a x => evStore P lo fr s t a x
  | .nilCheck x => evNilCheck P lo fr s x
  | .binOp op t x y _ => evBinOp P lo fr s op t x y
  | .unOp op _ x => evUnOp P lo fr s op x
  | .convert src dst x => evConvert P lo fr s src dst x
  | .makeInterface t x => evMakeInterface P lo fr s t x
  | .makeFunc (.func f) first captured => evMakeFunc P lo fr s f first captured
  | .makeMap t none => evMakeMap P lo fr s t
  | .makeSlice t l c => evMakeSlice P lo fr s t l c
  | .slice t x lo' hi mx => evSlice P lo fr s t x lo' hi mx
  | .fieldAddr st x f => evFieldAddr P lo fr s st x f
  | .field t x f => evField P lo fr s t x f
  | .indexAddr t x ix => evIndexAddr P lo fr s t x ix
  | .index t x ix => evIndex P lo fr s t x ix
  | .lookup t x ix ok => evLookup P lo fr s t x ix ok
  | .mapUpdate t m k x => evMapUpdate P lo fr s t m k x
  | .insert t m k x => evMapUpdate P lo fr s t m k x
  | .range t x => evRange P lo fr s t x
  | .next it true => evNext P lo fr s it
  | .extract x k => evExtract P lo fr s x k
  | .call c => evCall P lo fr s c
  | _ => none
/-- an operation's place in its region: is it carried out? -/
def wantedOp (fr : Tr AV) (ops : Array Oper) (o : Oper) : Option Bool :=
  match o.guard with
  | none => some true
  | some (j, want) => match ops[j]? with
    | some g => match g.dst with
      | some d => match fr.get (path d) with
        | some (.bool b) => some (b == want)
        | _ => some false
      | none => some false
    | none => some false
inductive Ex where
  | nrm | exit (id : Nat) | ret
inductive Job where
  | code (nt : Nat) (c : Code) (fr : Tr AV) (s : St)
  | call (f : FuncId) (args : List AV) (s : St)
inductive Out where
  | code (e : Ex) (fr : Tr AV) (s : St)
  | call (v : AV) (s : St)
def put (n : Nat) (fr : Tr AV) (dst : Option Tmp) (v : AV) : Option (Tr AV) :=
  match dst with
  | some d => bif Nat.blt d n then some (fr.set (some v) (path d)) else none
  | none => some fr
def startFr (args : List AV) : Tr AV := storeL .lf 0 args
def ress (P : Program) (s : St) (fr : Tr AV) : List ResultVar → Option (List AV)
  | [] => some []
  | .tmp t :: l => match ress P s fr l with
    | some r => some (slotV (fr.get (path t)) :: r)
    | none => none
  | .cell a t :: l => match fr.get (path a) with
    | some (.ptr b off) => match ti P t with
      | some i => match loadAt s i b off with
        | some v => match ress P s fr l with
          | some r => some (v :: r)
          | none => none
        | none => none
      | none => none
    | _ => none
/-- the function that a call comes to, and the arguments. -/
def callee (P : Program) (fr : Tr AV) (c : Call) : Option (FuncId × List AV) :=
  match c.callee with
  | .value f => match opnd P fr f with
    | some (.fn g cap) => match opnds P fr c.args.toList with
      | some l => some (g, l ++ cap)
      | none => none
    | _ => none
  | _ => none
/-- functions without a body. -/
def indexB (c : Nat) : List UInt8 → Nat → Int
  | [], _ => -1
  | x :: l, i => bif Nat.beq x.toNat c then (i : Int) else indexB c l (i + 1)
def evExtern (fn : Func) (args : List AV) : Option AV :=
  bif fn.name == "internal/bytealg.IndexByteString" && fn.origin == "" then
    match args with
    | [.str s, .int .u8 (.ofNat c)] => bif Nat.blt c 256 then some (.int .i64 (indexB c s 0)) else none
    | _ => none
  else none
/-- one operation. -/
def evOper (P : Program) (lo : Nat) (ih : Nat → Job → Option Out) (fr : Tr AV) (s : St) (o : Oper) : Option (AV × St) :=
  match o.op with
  | .call c => match c.callee with
    | .value _ => match callee P fr c with
      | some (f, l) => match P.funcs[f]? with
        | none => none
        | some fn => match fn.body with
          | none => match evExtern fn l with
            | some v => some (v, s)
            | none => none
          | some _ => bif fn.name == "runtime.NumGoroutine" then none else
            match ih lo (.call f l s) with
            | some (.call v s') => some (v, s')
            | _ => none
      | none => none
    | _ => evOp P lo fr s o.op
  | _ => evOp P lo fr s o.op
def evOps (P : Program) (lo nt : Nat) (ih : Nat → Job → Option Out) (ops : Array Oper) : List Oper → Tr AV → St → Option Out
  | [], fr, s => some (.code .nrm fr s)
  | o :: l, fr, s => match wantedOp fr ops o with
    | some true => match evOper P lo ih fr s o with
      | some (v, s') => match put nt fr o.dst v with
        | some fr' => evOps P lo nt ih ops l fr' s'
        | none => none
      | none => none
    | some false => match put nt fr o.dst (.tup []) with
      | some fr' => evOps P lo nt ih ops l fr' s
      | none => none
    | none => none
/-- a load's address. -/
structure Look where
  t : TypeId
  b : Nat
  off : Nat
  v : AV
inductive Kind where
  | calm
  | look (l : Look)
  | writes
structure Rec where
  mask : Nat
  news : List (Nat × Blk)
  kind : Kind
def recMask : List Nat → Nat → Nat
  | [], _ => 0
  | m :: _, 0 => m
  | _ :: l, k + 1 => recMask l k
def maskOf (ms : List Nat) : List Edge → Nat
  | [] => 0
  | e :: l => bif Region.binds .any e then Nat.lor (Nat.lor (2 ^ e.on) (recMask ms e.on)) (maskOf ms l) else maskOf ms l
def addNews (h : Tr Blk) : List (Nat × Blk) → Tr Blk
  | [] => h
  | (i, b) :: l => addNews (h.set (some b) (path i)) l
/-- a memory, and what the operations of the mask have made that is not in it. -/
def memOf (h : Tr Blk) (held mask : Nat) : List Rec → Nat → Tr Blk
  | [], _ => h
  | r :: l, k => memOf (match r.news with
    | [] => h
    | x :: xs => bif Nat.testBit mask k && !Nat.testBit held k then addNews h (x :: xs) else h) held mask l (k + 1)
def newsOf (h : Tr Blk) (n : Nat) : Nat → List (Nat × Blk)
  | 0 => []
  | k + 1 => match h.get (path n) with
    | some b => (n, b) :: newsOf h (n + 1) k
    | none => newsOf h (n + 1) k
/-- how many of those that write stand in the mask. -/
def writesIn (mask : Nat) : List Rec → Nat → Nat
  | [], _ => 0
  | r :: l, k => match r.kind with
    | .writes => bif Nat.testBit mask k then writesIn mask l (k + 1) + 1 else writesIn mask l (k + 1)
    | _ => writesIn mask l (k + 1)
/-- all those so far that write stand in the mask. -/
def allWrites (mask : Nat) : List Rec → Nat → Bool
  | [], _ => true
  | r :: l, k => (match r.kind with
    | .writes => Nat.testBit mask k
    | _ => true) && allWrites mask l (k + 1)
/-- no operation ahead that need not come ahead touches what this one touches. -/
def allApart (ops : Array Oper) (o : Oper) (mask : Nat) : List Oper → Nat → Bool
  | [], _ => true
  | p :: l, k => (Nat.testBit mask k || o.apart ops p) && allApart ops o mask l (k + 1)
def sameCap : ACap → ACap → Bool
  | .fix a, .fix b => a == b
  | .opn a i, .opn b j => a == b && i == j
  | _, _ => false
def sameTxts : List (List UInt8) → List (List UInt8) → Bool
  | [], [] => true
  | a :: l, b :: r => sameBytes a b && sameTxts l r
  | _, _ => false
def sameSym : Sym → Sym → Bool
  | .txt i l, .txt j m => Nat.beq i j && sameTxts l m
  | .lin l a b, .lin l' a' b' => (l == l') && a == a' && b == b'
  | .res a b, .res a' b' => a == a' && b == b'
  | .rng k a b, .rng k' a' b' => (k == k') && a == a' && b == b'
  | _, _ => false
def sameSc : AV → AV → Bool
  | .sym a, .sym b => sameSym a b
  | .int k n, .int k' n' => k == k' && n == n'
  | .bool b, .bool b' => b == b'
  | .nilp, .nilp | .nils, .nils | .nilm, .nilm | .nilf, .nilf | .nili, .nili | .emp, .emp => true
  | .ptr b o, .ptr b' o' => b == b' && o == o'
  | .slc b o l c, .slc b' o' l' c' => b == b' && o == o' && l == l' && sameCap c c'
  | .map b, .map b' => b == b'
  | .str a, .str b => a == b
  | _, _ => false
def sameScs : List AV → List AV → Bool
  | [], [] => true
  | a :: l, b :: r => sameSc a b && sameScs l r
  | _, _ => false
def sameAV : AV → AV → Bool
  | .agg l, .agg r => sameScs l r
  | .fn f l, .fn g r => f == g && sameScs l r
  | a, b => sameSc a b
/-- the memories at which a load may come. -/
structure Core where
  h : Tr Blk
  held : Nat
def lookAt (P : Program) (c : Core) (mask : Nat) (recs : List Rec) (n : Nat) (t : TypeId) (b off : Nat) : Option AV :=
  match ti P t with
  | some i => loadAt ⟨memOf c.h c.held mask recs 0, n⟩ i b off
  | none => none
/-- the load's value at all of these is this one. -/
def lookAll (P : Program) (mask : Nat) (recs : List Rec) (n : Nat) (l : Look) : List Core → Bool
  | [] => true
  | c :: cs => (match lookAt P c mask recs n l.t l.b l.off with
    | some v => sameAV v l.v
    | none => false) && lookAll P mask recs n l cs
def lookFirst (P : Program) (mask : Nat) (recs : List Rec) (n : Nat) (t : TypeId) (b off : Nat) : List Core → Option AV
  | [] => none
  | c :: cs => match lookAt P c mask recs n t b off with
    | some v => bif lookAll P mask recs n ⟨t, b, off, v⟩ cs then some v else none
    | none => none
/-- the loads so far that need not come ahead of what writes now: they read the same behind it. -/
def looksStay (P : Program) (c : Core) (mask : Nat) (all : List Rec) (n : Nat) : List Rec → Nat → Bool
  | [], _ => true
  | r :: l, k => (match r.kind with
    | .look x => Nat.testBit mask k || lookAll P r.mask all n x [c]
    | _ => true) && looksStay P c mask all n l (k + 1)
def belowSc (n : Nat) : AV → Bool
  | .ptr b _ => Nat.blt b n
  | .slc b _ _ _ => Nat.blt b n
  | .map b => Nat.blt b n
  | .fn _ [] => true
  | .fn _ _ | .ifc _ _ | .agg _ | .tup _ => false
  | _ => true
def belowScs (n : Nat) : List AV → Bool
  | [] => true
  | a :: l => belowSc n a && belowScs n l
/-- all blocks that the value names come ahead of n. -/
def belowAV (n : Nat) : AV → Bool
  | .agg l => belowScs n l
  | .fn _ l => belowScs n l
  | a => belowSc n a
structure DSt where
  done : List Oper
  recs : List Rec
  cores : List Core        -- the latest first
  fr : Tr AV
  n : Nat
def DSt.core (d : DSt) : Core := match d.cores with
  | c :: _ => c
  | [] => ⟨.lf, 0⟩
/-- one operation of a region whose order is open. -/
def forceN (n : Nat) : Nat := match n with
  | 0 => 0
  | k + 1 => k + 1
def evDrawOp (P : Program) (lo nt : Nat) (ih : Nat → Job → Option Out) (ops : Array Oper) (o : Oper) (m : Nat) (d : DSt) : Option DSt :=
  match wantedOp d.fr ops o with
  | none => none
  | some false => match put nt d.fr o.dst (.tup []) with
    | some fr' => some ⟨d.done ++ [o], d.recs ++ [⟨m, [], .calm⟩], d.cores, fr', d.n⟩
    | none => none
  | some true =>
    match evOp P d.n d.fr ⟨.lf, d.n⟩ o.op with
    | some (v, s') => bif !Nat.ble d.n s'.n then none else match put nt d.fr o.dst v with
      | some fr' => some ⟨d.done ++ [o], d.recs ++ [⟨m, newsOf s'.h d.n (s'.n - d.n), .calm⟩], d.cores, fr', forceN s'.n⟩
      | none => none
    | none =>
      match o.op with
      | .load t a => match opnd P d.fr a with
        | some (.ptr b off) => match lookFirst P m d.recs d.n t b off (d.cores.take (d.cores.length - writesIn m d.recs 0)) with
          | some v => bif !belowAV d.n v then none else match put nt d.fr o.dst v with
            | some fr' => some ⟨d.done ++ [o], d.recs ++ [⟨m, [], .look ⟨t, b, off, v⟩⟩], d.cores, fr', d.n⟩
            | none => none
          | none => none
        | _ => none
      | _ =>
        bif !allWrites m d.recs 0 then none else
          match evOper P lo ih d.fr ⟨memOf d.core.h d.core.held m d.recs 0, d.n⟩ o with
          | some (v, s') => bif !Nat.ble d.n s'.n then none else match put nt d.fr o.dst v with
            | some fr' =>
              bif looksStay P ⟨s'.h, Nat.lor (Nat.lor d.core.held m) (2 ^ d.recs.length)⟩ m (d.recs ++ [⟨m, [], .writes⟩]) s'.n d.recs 0 then
                some ⟨d.done ++ [o], d.recs ++ [⟨m, [], .writes⟩], ⟨s'.h, Nat.lor (Nat.lor d.core.held m) (2 ^ d.recs.length)⟩ :: d.cores, fr', forceN s'.n⟩
              else none
            | none => none
          | none => none
def evDraw (P : Program) (lo nt : Nat) (ih : Nat → Job → Option Out) (ops : Array Oper) : List (Oper × Nat) → DSt → Option Out
  | [], d => some (.code .nrm d.fr ⟨memOf d.core.h d.core.held (2 ^ d.recs.length - 1) d.recs 0, d.n⟩)
  | (o, m) :: l, d => match evDrawOp P lo nt ih ops o m d with
    | some d' => evDraw P lo nt ih ops l d'
    | none => none
/-- what must come ahead of each operation; no two that may change places touch one another. -/
def planGo (ops : Array Oper) (done : List Oper) (ms : List Nat) : List Oper → Option (List (Oper × Nat))
  | [] => some []
  | o :: l => bif !allApart ops o (maskOf ms o.after.toList) done 0 || !Nat.blt (maskOf ms o.after.toList) (2 ^ ms.length) then none else
    match planGo ops (done ++ [o]) (ms ++ [maskOf ms o.after.toList]) l with
    | some r => some ((o, maskOf ms o.after.toList) :: r)
    | none => none
def evOpen (P : Program) (lo nt : Nat) (ih : Nat → Job → Option Out) (ops : Array Oper) (fr : Tr AV) (s : St) : Option Out :=
  match planGo ops [] [] ops.toList with
  | some l => evDraw P lo nt ih ops l ⟨[], [], [⟨s.h, 0⟩], fr, forceN s.n⟩
  | none => none
def oneOf : List AV → AV
  | [v] => v
  | l => .tup l
def exNrm : Ex → Bool
  | .exit _ => false
  | _ => true
def evF (P : Program) (ih : Nat → Job → Option Out) (lo : Nat) : Job → Option Out
  | .code nt c fr s => match c with
    | .skip => some (.code .nrm fr s)
    | .label _ => some (.code .nrm fr s)
    | .region _ ops draw => bif draw then (bif P.follows .mixedOrders then evOpen P lo nt ih ops fr s else none) else evOps P lo nt ih ops ops.toList fr s
    | .seq a b => match ih lo (.code nt a fr s) with
      | some (.code .nrm fr' s') => ih lo (.code nt b fr' s')
      | some (.code e fr' s') => some (.code e fr' s')
      | _ => none
    | .cond x a b => match opnd P fr x with
      | some (.bool t) => ih lo (.code nt (bif t then a else b) fr s)
      | _ => none
    | .block id c => match ih lo (.code nt c fr s) with
      | some (.code (.exit k) fr' s') => bif k == id then some (.code .nrm fr' s') else some (.code (.exit k) fr' s')
      | some (.code e fr' s') => some (.code e fr' s')
      | _ => none
    | .loop c => match ih lo (.code nt c fr s) with
      | some (.code .nrm fr' s') => ih lo (.code nt (.loop c) fr' s')
      | some (.code e fr' s') => some (.code e fr' s')
      | _ => none
    | .exit id => some (.code (.exit id) fr s)
    | .scope c => ih lo (.code nt c fr s)
    | .ret => some (.code .ret fr s)
    | _ => none
  | .call f args s => match P.funcs[f]? with
    | none => none
    | some fn => match fn.body with
      | none => none
      | some c => bif !Nat.ble args.length fn.ntmps then none else
        match ih lo (.code fn.ntmps c (startFr args) s) with
        | some (.code e fr' s') => bif exNrm e then
            match ress P s' fr' fn.results.toList with
            | some l => some (.call (oneOf l) s')
            | none => none
          else none
        | _ => none
def ev (P : Program) : Nat → Nat → Job → Option Out
  | 0, _, _ => none
  | n + 1, lo, j => evF P (ev P n) lo j
end Ev
end Go.Proofs.Ytnajbogmhhlpcaa
namespace Go.Proofs.Ytnajbogmhhlpcaa
namespace Ev
/-! Tries. -/
theorem get_lf {α : Type} (k : Pth) : Tr.get k (.lf : Tr α) = none := by cases k <;> rfl
theorem get_set_same {α : Type} (x : Option α) (k : Pth) : ∀ t : Tr α, Tr.get k (Tr.set x k t) = x := by
  induction k with
  | h => intro t; cases t <;> rfl
  | o p ih => intro t; cases t <;> exact ih _
  | i p ih => intro t; cases t <;> exact ih _
theorem get_set_other {α : Type} (x : Option α) (k : Pth) : ∀ (k' : Pth) (t : Tr α), k' ≠ k → Tr.get k' (Tr.set x k t) = Tr.get k' t := by
  induction k with
  | h => intro k' t hk; cases k' <;> cases t <;> first | exact absurd rfl hk | simp [Tr.set, Tr.get, get_lf]
  | o p ih =>
    intro k' t hk
    cases k' with
    | h => cases t <;> rfl
    | o q => cases t <;> simp only [Tr.set, Tr.get] <;> rw [ih _ _ (fun e => hk (by rw [e]))] <;> simp [get_lf]
    | i q => cases t <;> simp [Tr.set, Tr.get, get_lf]
  | i p ih =>
    intro k' t hk
    cases k' with
    | h => cases t <;> rfl
    | o q => cases t <;> simp [Tr.set, Tr.get, get_lf]
    | i q => cases t <;> simp only [Tr.set, Tr.get] <;> rw [ih _ _ (fun e => hk (by rw [e]))] <;> simp [get_lf]
def Pth.val : Pth → Nat
  | .h => 0
  | .o p => 2 * p.val + 1
  | .i p => 2 * p.val + 2
theorem val_next : ∀ p : Pth, p.next.val = p.val + 1
  | .h => rfl
  | .o p => by simp [Pth.next, Pth.val]
  | .i p => by simp only [Pth.next, Pth.val]; rw [val_next p]; omega
theorem val_pathS : ∀ n : Nat, (pathS n).val = n + 1
  | 0 => rfl
  | n + 1 => by rw [pathS, val_next, val_pathS n]
theorem val_path : ∀ n : Nat, (path n).val = n
  | 0 => rfl
  | n + 1 => val_pathS n
theorem path_inj {a b : Nat} (h : path a = path b) : a = b := by rw [← val_path a, h, val_path b]
theorem get_put {α : Type} (x : Option α) (a b : Nat) (t : Tr α) : Tr.get (path b) (Tr.set x (path a) t) = if b = a then x else Tr.get (path b) t := by
  by_cases h : b = a
  · subst h; rw [if_pos rfl, get_set_same]
  · rw [if_neg h, get_set_other _ _ _ _ (fun e => h (path_inj e))]
/-! Values. -/
abbrev Beta := Nat → Option (Nat × Nat)
def CapOk (off c t : Nat) : ACap → Prop
  | .fix k => c = k
  | .opn size least => least ≤ c ∧ off + c * size = t ∧ 0 < size ∧ c ≤ maxLen
/-- what is not known. -/
class Env where
  num : Int
  txt : Nat → List UInt8
def Env.of [Env] (low : Bool) : Int := bif low then Env.num % 1048576 else Env.num
set_option linter.unusedSectionVars false
variable [Env]
def SymRep : Sym → Value → Prop
  | .txt i l, v => v = .string ⟨(Env.txt i).toArray⟩ ∧ ∀ x ∈ l, Env.txt i ≠ x
  | .lin l a b, v => v = .int .i64 (IntKind.i64.wrap (a + b * Env.of l))
  | .res n r, v => ∃ z : Int, v = .int .i64 z ∧ z.tmod n = r
  | .rng k lo hi, v => ∃ z : Int, v = .int k z ∧ lo ≤ z ∧ z ≤ hi
theorem SymRep.one {s : Sym} {v : Value} (h : SymRep s v) : v.oneCell' = true ∧ v.cells = #[v] := by
  cases s with
  | txt i l => obtain ⟨rfl, _⟩ := h; exact ⟨rfl, rfl⟩
  | lin l a b => obtain rfl := h; exact ⟨rfl, rfl⟩
  | res n r => obtain ⟨z, rfl, _⟩ := h; exact ⟨rfl, rfl⟩
  | rng k lo hi => obtain ⟨z, rfl, _⟩ := h; exact ⟨rfl, rfl⟩
mutual
def Rep (β : Beta) : AV → Value → Prop
  | .sym s, v => SymRep s v
  | .int k n, v => v = .int k n
  | .bool b, v => v = .bool b
  | .str s, v => v = .string ⟨s.toArray⟩
  | .flt k b, v => v = .float k b
  | .ptr b off, v => ∃ n t, β b = some (n, t) ∧ v = .pointer (some ⟨n, off, none⟩)
  | .nilp, v => v = .pointer none
  | .slc b off len cap, v => ∃ n t c, β b = some (n, t) ∧ v = .slice (some ⟨n, off, none⟩) len c ∧ len ≤ c ∧ CapOk off c t cap
  | .nils, v => v = .slice none 0 0
  | .emp, v => ∃ a c, v = .slice (some a) 0 c
  | .map b, v => ∃ n t, β b = some (n, t) ∧ v = .map (some n)
  | .nilm, v => v = .map none
  | .fn f cap, v => ∃ vs : Array Value, v = .func (.func f) #[] vs ∧ Reps β cap vs.toList
  | .nilf, v => v = .nilFunc
  | .ifc t a, v => ∃ u, v = .iface t u ∧ Rep β a u
  | .nili, v => v = .nilIface
  | .agg l, v => ∃ vs : Array Value, v = .agg vs ∧ Reps β l vs.toList
  | .tup l, v => ∃ vs : Array Value, v = .tuple vs ∧ Reps β l vs.toList
def Reps (β : Beta) : List AV → List Value → Prop
  | [], vs => vs = []
  | a :: l, vs => ∃ u r, vs = u :: r ∧ Rep β a u ∧ Reps β l r
end
def Beta.le (β β' : Beta) : Prop := ∀ i p, β i = some p → β' i = some p
theorem Beta.le_refl (β : Beta) : β.le β := fun _ _ h => h
theorem Beta.le_trans {a b c : Beta} (h : a.le b) (k : b.le c) : a.le c := fun i p e => k i p (h i p e)
mutual
theorem Rep.mono {β β' : Beta} (h : β.le β') : ∀ (a : AV) (v : Value), Rep β a v → Rep β' a v
  | .sym _, _, e => e
  | .int .., _, e => e
  | .bool _, _, e => e
  | .str _, _, e => e
  | .flt .., _, e => e
  | .ptr .., _, ⟨n, t, e, r⟩ => ⟨n, t, h _ _ e, r⟩
  | .nilp, _, e => e
  | .slc .., _, ⟨n, t, c, e, r⟩ => ⟨n, t, c, h _ _ e, r⟩
  | .nils, _, e => e
  | .emp, _, e => e
  | .map _, _, ⟨n, t, e, r⟩ => ⟨n, t, h _ _ e, r⟩
  | .nilm, _, e => e
  | .fn _ cap, _, ⟨vs, e, r⟩ => ⟨vs, e, Reps.mono h cap _ r⟩
  | .nilf, _, e => e
  | .ifc _ a, _, ⟨u, e, r⟩ => ⟨u, e, Rep.mono h a u r⟩
  | .nili, _, e => e
  | .agg l, _, ⟨vs, e, r⟩ => ⟨vs, e, Reps.mono h l _ r⟩
  | .tup l, _, ⟨vs, e, r⟩ => ⟨vs, e, Reps.mono h l _ r⟩
theorem Reps.mono {β β' : Beta} (h : β.le β') : ∀ (l : List AV) (vs : List Value), Reps β l vs → Reps β' l vs
  | [], _, e => e
  | a :: l, _, ⟨u, r, e, ha, hl⟩ => ⟨u, r, e, Rep.mono h a u ha, Reps.mono h l r hl⟩
end
theorem Rep.mono' {β β' : Beta} {a : AV} {v : Value} (r : Rep β a v) (h : β.le β') : Rep β' a v := Rep.mono h a v r
theorem Reps.mono' {β β' : Beta} {l : List AV} {vs : List Value} (r : Reps β l vs) (h : β.le β') : Reps β' l vs := Reps.mono h l vs r
theorem Reps.length {β : Beta} : ∀ {l : List AV} {vs : List Value}, Reps β l vs → vs.length = l.length
  | [], _, e => by rw [e]; rfl
  | _ :: _, _, ⟨_, _, e, _, hl⟩ => by rw [e, List.length_cons, List.length_cons, Reps.length hl]
theorem Reps.at {β : Beta} : ∀ {l : List AV} {vs : List Value}, Reps β l vs → ∀ (i : Nat) (a : AV), l[i]? = some a → ∃ u, vs[i]? = some u ∧ Rep β a u
  | a :: l, _, ⟨u, r, e, ha, hl⟩, 0, b, hb => ⟨u, by rw [e]; rfl, by simp at hb; rw [← hb]; exact ha⟩
  | a :: l, _, ⟨u, r, e, ha, hl⟩, i + 1, b, hb => by rw [e]; simpa using Reps.at hl i b (by simpa using hb)
theorem Reps.append {β : Beta} : ∀ {l m : List AV} {vs us : List Value}, Reps β l vs → Reps β m us → Reps β (l ++ m) (vs ++ us)
  | [], _, _, _, e, h => by rw [e]; exact h
  | _ :: _, _, _, _, ⟨u, r, e, ha, hl⟩, h => ⟨u, r ++ _, by rw [e]; rfl, ha, Reps.append hl h⟩
theorem Reps.take {β : Beta} : ∀ {l : List AV} {vs : List Value} (n : Nat), Reps β l vs → Reps β (l.take n) (vs.take n)
  | [], _, n, e => by rw [e]; simp [Reps]
  | _ :: _, _, 0, _ => by simp [Reps]
  | _ :: _, _, n + 1, ⟨u, r, e, ha, hl⟩ => ⟨u, r.take n, by rw [e]; rfl, ha, Reps.take n hl⟩
theorem Reps.drop {β : Beta} : ∀ {l : List AV} {vs : List Value} (n : Nat), Reps β l vs → Reps β (l.drop n) (vs.drop n)
  | [], _, n, e => by rw [e]; simp [Reps]
  | _ :: _, _, 0, h => by simpa using h
  | _ :: _, _, n + 1, ⟨u, r, e, ha, hl⟩ => by rw [e]; simpa using Reps.drop n hl
theorem Reps.of_at {β : Beta} : ∀ {l : List AV} {vs : List Value}, vs.length = l.length → (∀ (i : Nat) (a : AV) (u : Value), l[i]? = some a → vs[i]? = some u → Rep β a u) → Reps β l vs
  | [], vs, e, _ => by simpa [Reps] using e
  | a :: l, [], e, _ => by simp at e
  | a :: l, u :: r, e, h => ⟨u, r, rfl, h 0 a u rfl rfl, Reps.of_at (by simpa using e) fun i b v hb hv => h (i + 1) b v (by simpa using hb) (by simpa using hv)⟩
theorem nthA_eq : ∀ (l : List AV) (n : Nat), nthA l n = l[n]?
  | [], _ => by simp [nthA]
  | _ :: _, 0 => rfl
  | _ :: l, n + 1 => by simpa [nthA] using nthA_eq l n
theorem Reps.nth {β : Beta} {l : List AV} {vs : List Value} (h : Reps β l vs) {i : Nat} {a : AV} (e : nthA l i = some a) : ∃ u, vs[i]? = some u ∧ Rep β a u :=
  h.at i a (by rw [← nthA_eq]; exact e)
theorem Reps.rep {β : Beta} {l : List AV} {vs : List Value} (h : Reps β l vs) (n : Nat) : Reps β (rep l n) (List.flatten (List.replicate n vs)) := by
  induction n with
  | zero => simp [Ev.rep, Reps]
  | succ n ih => rw [Ev.rep, List.replicate_succ, List.flatten_cons]; exact h.append ih
theorem cells_rep {β : Beta} {a : AV} {v : Value} (h : Rep β a v) : Reps β a.cells v.cells.toList := by
  cases a with
  | sym s => exact ⟨v, [], by rw [(SymRep.one h).2], h, rfl⟩
  | agg l => obtain ⟨vs, rfl, hl⟩ := h; exact hl
  | tup l => obtain ⟨vs, rfl, hl⟩ := h; exact ⟨_, [], rfl, ⟨vs, rfl, hl⟩, rfl⟩
  | int k n => cases h; exact ⟨_, [], rfl, rfl, rfl⟩
  | bool b => cases h; exact ⟨_, [], rfl, rfl, rfl⟩
  | str s => cases h; exact ⟨_, [], rfl, rfl, rfl⟩
  | flt k b => cases h; exact ⟨_, [], rfl, rfl, rfl⟩
  | ptr b off => obtain ⟨n, t, e, rfl⟩ := h; exact ⟨_, [], rfl, ⟨n, t, e, rfl⟩, rfl⟩
  | nilp => cases h; exact ⟨_, [], rfl, rfl, rfl⟩
  | slc b off len cap => obtain ⟨n, t, c, e, rfl, r⟩ := h; exact ⟨_, [], rfl, ⟨n, t, c, e, rfl, r⟩, rfl⟩
  | nils => cases h; exact ⟨_, [], rfl, rfl, rfl⟩
  | emp => obtain ⟨x, c, rfl⟩ := h; exact ⟨_, [], rfl, ⟨x, c, rfl⟩, rfl⟩
  | map b => obtain ⟨n, t, e, rfl⟩ := h; exact ⟨_, [], rfl, ⟨n, t, e, rfl⟩, rfl⟩
  | nilm => cases h; exact ⟨_, [], rfl, rfl, rfl⟩
  | fn f cap => obtain ⟨vs, rfl, r⟩ := h; exact ⟨_, [], rfl, ⟨vs, rfl, r⟩, rfl⟩
  | nilf => cases h; exact ⟨_, [], rfl, rfl, rfl⟩
  | ifc t a => obtain ⟨u, rfl, r⟩ := h; exact ⟨_, [], rfl, ⟨u, rfl, r⟩, rfl⟩
  | nili => cases h; exact ⟨_, [], rfl, rfl, rfl⟩
theorem oneCell_of {β : Beta} {a : AV} {v : Value} (hs : a.scalar = true) (h : Rep β a v) : v.oneCell' = true := by
  cases a with
  | sym s => exact (SymRep.one h).1
  | agg l => cases hs
  | tup l => cases hs
  | ptr b off => obtain ⟨n, t, e, rfl⟩ := h; rfl
  | slc b off len cap => obtain ⟨n, t, c, e, rfl, r⟩ := h; rfl
  | emp => obtain ⟨x, c, rfl⟩ := h; rfl
  | map b => obtain ⟨n, t, e, rfl⟩ := h; rfl
  | fn f cap => obtain ⟨vs, rfl, r⟩ := h; rfl
  | ifc t a => obtain ⟨u, rfl, r⟩ := h; rfl
  | _ => cases h; rfl
theorem ofCell_rep {β : Beta} {v : Value} {a : AV} (h : ofCell v = some a) : Rep β a v := by
  unfold ofCell at h
  split at h <;> first | (cases h; done) | (cases h; first | rfl | (simp [Rep]; done))
theorem ofCells_rep {β : Beta} : ∀ {l : List Value} {as : List AV}, ofCells l = some as → Reps β as l
  | [], _, h => by cases h; rfl
  | v :: l, as, h => by
    simp only [ofCells] at h
    split at h
    · rename_i a ha
      split at h
      · rename_i r hr
        cases h
        exact ⟨v, l, rfl, ofCell_rep ha, ofCells_rep hr⟩
      · cases h
    · cases h
theorem ofV_rep {β : Beta} {v : Value} {a : AV} (h : ofV v = some a) : Rep β a v := by
  unfold ofV at h
  split at h
  · rename_i cs
    cases hc : ofCells cs.toList with
    | none => rw [hc] at h; cases h
    | some l => rw [hc] at h; cases h; exact ⟨cs, rfl, ofCells_rep hc⟩
  · rename_i cs
    cases hc : ofCells cs.toList with
    | none => rw [hc] at h; cases h
    | some l => rw [hc] at h; cases h; exact ⟨cs, rfl, ofCells_rep hc⟩
  · exact ofCell_rep h
/-! Memory. -/
def MapRep (β : Beta) : List (AV × AV) → List MapEntry → Prop
  | [], es => es = []
  | (k, v) :: l, es => ∃ e r, es = e :: r ∧ Rep β k e.key ∧ Rep β v e.val ∧ MapRep β l r
theorem MapRep.mono {β β' : Beta} (h : β.le β') : ∀ (l : List (AV × AV)) (es : List MapEntry), MapRep β l es → MapRep β' l es
  | [], _, e => e
  | (_, _) :: l, _, ⟨e, r, he, hk, hv, hl⟩ => ⟨e, r, he, Rep.mono h _ _ hk, Rep.mono h _ _ hv, MapRep.mono h l r hl⟩
theorem MapRep.length {β : Beta} : ∀ {l : List (AV × AV)} {es : List MapEntry}, MapRep β l es → es.length = l.length
  | [], _, e => by rw [e]; rfl
  | (_, _) :: _, _, ⟨_, _, e, _, _, hl⟩ => by rw [e, List.length_cons, List.length_cons, MapRep.length hl]
def BRep (β : Beta) : Blk → Option Obj → Nat → Prop
  | .cells T n zs t opn rw, o, total => ∃ cs T' fr, o = some (.cells cs T' fr) ∧ cs.size = total ∧ n ≤ total ∧ (opn = false → total = n) ∧ (rw = true → T' = T ∧ fr = (0, 0)) ∧ ∀ i v, cellAt n zs t i = some v → ∃ u, cs[i]? = some u ∧ Rep β v u
  | .map l, o, _ => ∃ es clock, o = some (.map es clock) ∧ MapRep β l es.toList
  | .iter s pos, o, _ => ∃ full : ByteArray, o = some (.stringIter full pos) ∧ full.data.toList.drop pos = s
theorem BRep.mono {β β' : Beta} (h : β.le β') : ∀ {b : Blk} {o : Option Obj} {t : Nat}, BRep β b o t → BRep β' b o t
  | .cells .., _, _, ⟨cs, T', fr, a, b, c, d, e, f⟩ => ⟨cs, T', fr, a, b, c, d, e, fun i v hv => let ⟨u, h1, h2⟩ := f i v hv; ⟨u, h1, Rep.mono h _ _ h2⟩⟩
  | .map _, _, _, ⟨es, cl, a, b⟩ => ⟨es, cl, a, MapRep.mono h _ _ b⟩
  | .iter .., _, _, h => h
def Live (h : Tr Blk) (i : Nat) : Prop := ∃ b, h.get (path i) = some b
structure Sit (β : Beta) (s : St) (w : World) : Prop where
  blk : ∀ i b, s.h.get (path i) = some b → ∃ p, β i = some p ∧ BRep β b w.heap[p.1]? p.2
  inj : ∀ i j p q, Live s.h i → Live s.h j → β i = some p → β j = some q → p.1 = q.1 → i = j
  low : ∀ i p, β i = some p → i < s.n ∧ p.1 < w.heap.size
structure Ext (lo : Nat) (β : Beta) (s : St) (w : World) (β' : Beta) (s' : St) (w' : World) : Prop where
  sit : Sit β' s' w'
  os : w'.os = w.os
  tape : w'.tape = w.tape
  output : w'.output = w.output
  size : w.heap.size ≤ w'.heap.size
  same : ∀ i, i < s.n → β' i = β i
  le : s.n ≤ s'.n
  keep : ∀ b, b < w.heap.size → (∀ i p, lo ≤ i → Live s.h i → β i = some p → p.1 ≠ b) → w'.heap[b]? = w.heap[b]?
  new : ∀ i p, s.n ≤ i → β' i = some p → w.heap.size ≤ p.1 ∨ ∃ j q, lo ≤ j ∧ Live s.h j ∧ β j = some q ∧ q.1 = p.1
  old : ∀ i, i < s.n → Live s'.h i → Live s.h i
theorem Ext.beta {lo : Nat} {β β' : Beta} {s s' : St} {w w' : World} (hs : Sit β s w) (h : Ext lo β s w β' s' w') : β.le β' := fun i p e => by
  rw [h.same i (hs.low i p e).1]; exact e
theorem Ext.refl {lo : Nat} {β : Beta} {s : St} {w : World} (h : Sit β s w) : Ext lo β s w β s w :=
  ⟨h, rfl, rfl, rfl, Nat.le_refl _, fun _ _ => rfl, Nat.le_refl _, fun _ _ _ => rfl, fun i p hi e => absurd (h.low i p e).1 (by omega), fun _ _ h => h⟩
theorem Ext.trans {lo : Nat} {β β1 β2 : Beta} {s s1 s2 : St} {w w1 w2 : World} (h0 : Sit β s w) (h : Ext lo β s w β1 s1 w1) (k : Ext lo β1 s1 w1 β2 s2 w2) : Ext lo β s w β2 s2 w2 := by
  refine ⟨k.sit, k.os.trans h.os, k.tape.trans h.tape, k.output.trans h.output, Nat.le_trans h.size k.size, fun i hi => (k.same i (Nat.lt_of_lt_of_le hi h.le)).trans (h.same i hi), Nat.le_trans h.le k.le, ?_, ?_, fun i hi hl => h.old i hi (k.old i (Nat.lt_of_lt_of_le hi h.le) hl)⟩
  · intro b hb hn
    refine (k.keep b (Nat.lt_of_lt_of_le hb h.size) ?_).trans (h.keep b hb hn)
    intro i p hi hl hp
    by_cases hin : i < s.n
    · exact hn i p hi (h.old i hin hl) (by rw [← h.same i hin]; exact hp)
    · rcases h.new i p (by omega) hp with hge | ⟨j, q, hj, hlj, hq, hqp⟩
      · omega
      · rw [← hqp]; exact hn j q hj hlj hq
  · intro i p hi hp
    by_cases hin : i < s1.n
    · exact h.new i p hi (by rw [← k.same i hin]; exact hp)
    · rcases k.new i p (by omega) hp with hge | ⟨j, q, hj, hlj, hq, hqp⟩
      · exact .inl (Nat.le_trans h.size hge)
      · by_cases hjn : j < s.n
        · exact .inr ⟨j, q, hj, h.old j hjn hlj, by rw [← h.same j hjn]; exact hq, hqp⟩
        · rcases h.new j q (by omega) hq with hge | ⟨j', q', a, b, c, d⟩
          · exact .inl (by omega)
          · exact .inr ⟨j', q', a, b, c, by omega⟩
end Ev
end Go.Proofs.Ytnajbogmhhlpcaa
namespace Go.Proofs.Ytnajbogmhhlpcaa
open Go.RowKit
namespace Ev
set_option linter.unusedSectionVars false
variable [Env]
theorem addr_add (b o i : Nat) : (Addr.add ⟨b, o, none⟩ i) = ⟨b, o + i, none⟩ := by
  unfold Addr.add
  by_cases h : i = 0
  · simp [h]
  · simp [h]
def upd (β : Beta) (n : Nat) (p : Nat × Nat) : Beta := fun i => if i = n then some p else β i
theorem upd_at (β : Beta) (n : Nat) (p : Nat × Nat) : upd β n p n = some p := if_pos rfl
theorem upd_ne (β : Beta) {n i : Nat} (p : Nat × Nat) (h : i ≠ n) : upd β n p i = β i := if_neg h
theorem Sit.fresh {β : Beta} {s : St} {w : World} (h : Sit β s w) : β s.n = none := by
  cases e : β s.n with
  | none => rfl
  | some p => exact absurd (h.low _ _ e).1 (by omega)
theorem Sit.dead {β : Beta} {s : St} {w : World} (h : Sit β s w) : ¬ Live s.h s.n := fun ⟨b, e⟩ => by
  obtain ⟨p, hp, _⟩ := h.blk _ _ e
  rw [h.fresh] at hp
  cases hp
theorem Sit.upd_le {β : Beta} {s : St} {w : World} (h : Sit β s w) (p : Nat × Nat) : β.le (upd β s.n p) := fun i q e => by
  rw [upd_ne β p (fun e' => by rw [e', h.fresh] at e; cases e)]; exact e
theorem live_set {h : Tr Blk} {i j : Nat} {b : Blk} : Live (h.set (some b) (path i)) j ↔ j = i ∨ Live h j := by
  unfold Live
  rw [get_put]
  by_cases e : j = i
  · simp [e]
  · simp [e]
theorem live_clear {h : Tr Blk} {i j : Nat} : Live (h.set none (path i)) j ↔ j ≠ i ∧ Live h j := by
  unfold Live
  rw [get_put]
  by_cases e : j = i
  · simp [e]
  · simp [e]
/-- A new block. -/
theorem ext_new {lo : Nat} {β : Beta} {s : St} {w : World} (hs : Sit β s w) {b : Blk} {o : Obj} {t : Nat} (hb : BRep (upd β s.n (w.heap.size, t)) b (some o) t) :
    Ext lo β s w (upd β s.n (w.heap.size, t)) (s.new b) (w.alloc o) := by
  have hold : ∀ k, k < w.heap.size → (w.alloc o).heap[k]? = w.heap[k]? := fun k hk => Below.heap_alloc w o k hk
  refine ⟨⟨?_, ?_, ?_⟩, rfl, rfl, rfl, by rw [World.size_alloc]; omega, ?_, Nat.le_succ _, fun k hk _ => hold k hk, ?_, ?_⟩
  · intro i c hc
    simp only [St.new, get_put] at hc
    by_cases e : i = s.n
    · rw [if_pos e] at hc
      cases hc
      subst e
      refine ⟨_, upd_at _ _ _, ?_⟩
      have : (w.alloc o).heap[w.heap.size]? = some o := heap_alloc_new w o
      rw [this]; exact hb
    · rw [if_neg e] at hc
      obtain ⟨p, hp, hr⟩ := hs.blk i c hc
      refine ⟨p, by rw [upd_ne β _ e]; exact hp, ?_⟩
      rw [hold p.1 (hs.low i p hp).2]
      exact hr.mono (hs.upd_le _)
  · intro i j p q hi hj hp hq hpq
    simp only [St.new, live_set] at hi hj
    by_cases ei : i = s.n
    · by_cases ej : j = s.n
      · rw [ei, ej]
      · rw [ei, upd_at] at hp
        rw [upd_ne β _ ej] at hq
        cases hp
        have := (hs.low j q hq).2
        simp only at hpq
        omega
    · by_cases ej : j = s.n
      · rw [ej, upd_at] at hq
        rw [upd_ne β _ ei] at hp
        cases hq
        have := (hs.low i p hp).2
        simp only at hpq
        omega
      · rw [upd_ne β _ ei] at hp
        rw [upd_ne β _ ej] at hq
        exact hs.inj i j p q (hi.resolve_left ei) (hj.resolve_left ej) hp hq hpq
  · intro i p hp
    by_cases e : i = s.n
    · rw [e, upd_at] at hp
      cases hp
      exact ⟨by rw [e]; simp [St.new], by rw [World.size_alloc]; omega⟩
    · rw [upd_ne β _ e] at hp
      have := hs.low i p hp
      exact ⟨Nat.lt_succ_of_lt this.1, by rw [World.size_alloc]; omega⟩
  · intro i hi
    exact upd_ne β _ (by omega)
  · intro i p hi hp
    by_cases e : i = s.n
    · rw [e, upd_at] at hp; cases hp; exact .inl (Nat.le_refl _)
    · rw [upd_ne β _ e] at hp
      exact absurd (hs.low i p hp).1 (by omega)
  · intro i hi hl
    simp only [St.new, live_set] at hl
    exact hl.resolve_left (by omega)
/-- A block of ours, put anew in its place. -/
theorem ext_put {lo : Nat} {β : Beta} {s : St} {w w' : World} (hs : Sit β s w) {i : Nat} {p : Nat × Nat} (hl : Live s.h i) (hi : lo ≤ i) (hp : β i = some p) {b : Blk} {o : Obj} (hb : BRep β b (some o) p.2)
    (hh : w'.heap = w.heap.setIfInBounds p.1 o) (ho : w'.os = w.os) (ht : w'.tape = w.tape) (hu : w'.output = w.output) :
    Ext lo β s w β ⟨s.h.set (some b) (path i), s.n⟩ w' := by
  have hlt := (hs.low i p hp).2
  have hsz : w'.heap.size = w.heap.size := by rw [hh]; simp
  have hold : ∀ k, k ≠ p.1 → w'.heap[k]? = w.heap[k]? := fun k hk => by
    rw [hh, Array.getElem?_setIfInBounds, if_neg (fun e => hk e.symm)]
  have hnew : w'.heap[p.1]? = some o := by
    rw [hh, Array.getElem?_setIfInBounds, if_pos rfl, if_pos hlt]
  refine ⟨⟨?_, ?_, ?_⟩, ho, ht, hu, by omega, fun _ _ => rfl, Nat.le_refl _, ?_, fun j q hj hq => absurd (hs.low j q hq).1 (by omega), ?_⟩
  · intro j c hc
    simp only [get_put] at hc
    by_cases e : j = i
    · rw [if_pos e] at hc
      cases hc
      subst e
      exact ⟨p, hp, by rw [hnew]; exact hb⟩
    · rw [if_neg e] at hc
      obtain ⟨q, hq, hr⟩ := hs.blk j c hc
      refine ⟨q, hq, ?_⟩
      rw [hold q.1 (fun e' => e (hs.inj j i q p ⟨c, hc⟩ hl hq hp e'))]
      exact hr
  · intro j k q r hj hk
    rw [live_set] at hj hk
    exact hs.inj j k q r (hj.elim (fun e => e ▸ hl) id) (hk.elim (fun e => e ▸ hl) id)
  · intro j q hq
    have := hs.low j q hq
    exact ⟨this.1, by omega⟩
  · intro k hk hn
    exact hold k (fun e => hn i p hi hl hp e.symm)
  · intro j _ hj
    rw [live_set] at hj
    exact hj.elim (fun e => e ▸ hl) id
/-- A row that an append has taken on: its old name goes, a new one comes, in the same place or in a new one. -/
theorem ext_move {lo : Nat} {β : Beta} {s : St} {w w' : World} (hs : Sit β s w) {i : Nat} {p : Nat × Nat} (hl : Live s.h i) (hi : lo ≤ i) (hp : β i = some p) {b : Blk} {g t : Nat}
    (hb : BRep (upd β s.n (g, t)) b w'.heap[g]? t) (hg : g < w'.heap.size) (hgg : g = p.1 ∨ w.heap.size ≤ g) (hgr : w.grownBy w' (some p.1)) :
    Ext lo β s w (upd β s.n (g, t)) ⟨(s.h.set none (path i)).set (some b) (path s.n), s.n + 1⟩ w' := by
  have hlt := (hs.low i p hp).2
  have hold : ∀ k, k < w.heap.size → k ≠ p.1 → w'.heap[k]? = w.heap[k]? := fun k hk hne => hgr.block k hk (fun e => hne (by cases e; rfl))
  have hin : i ≠ s.n := fun e => by have := (hs.low i p hp).1; omega
  refine ⟨⟨?_, ?_, ?_⟩, hgr.os, hgr.tape, hgr.output, hgr.size, fun j hj => upd_ne β _ (by omega), Nat.le_succ _, ?_, ?_, ?_⟩
  · intro j c hc
    simp only [get_put] at hc
    by_cases e : j = s.n
    · rw [if_pos e] at hc
      cases hc
      subst e
      exact ⟨_, upd_at _ _ _, hb⟩
    · rw [if_neg e] at hc
      by_cases e2 : j = i
      · rw [if_pos e2] at hc; cases hc
      · rw [if_neg e2] at hc
        obtain ⟨q, hq, hr⟩ := hs.blk j c hc
        refine ⟨q, by rw [upd_ne β _ e]; exact hq, ?_⟩
        rw [hold q.1 (hs.low j q hq).2 (fun e' => e2 (hs.inj j i q p ⟨c, hc⟩ hl hq hp e'))]
        exact hr.mono (hs.upd_le _)
  · intro j k q r hj hk hq hr hqr
    simp only [live_set, live_clear] at hj hk
    have aux : ∀ x y, x ≠ s.n → x ≠ i → Live s.h x → β x = some y → y.1 ≠ g := fun x y hx hxi hlx hy e => by
      rcases hgg with h | h
      · exact hxi (hs.inj x i y p hlx hl hy hp (e.trans h))
      · have := (hs.low x y hy).2; omega
    by_cases ej : j = s.n
    · by_cases ek : k = s.n
      · rw [ej, ek]
      · rw [ej, upd_at] at hq
        cases hq
        rw [upd_ne β _ ek] at hr
        have h2 := hk.resolve_left ek
        exact absurd hqr.symm (aux k r ek h2.1 h2.2 hr)
    · have h1 := hj.resolve_left ej
      rw [upd_ne β _ ej] at hq
      by_cases ek : k = s.n
      · rw [ek, upd_at] at hr
        cases hr
        exact absurd hqr (aux j q ej h1.1 h1.2 hq)
      · rw [upd_ne β _ ek] at hr
        have h2 := hk.resolve_left ek
        exact hs.inj j k q r h1.2 h2.2 hq hr hqr
  · intro j q hq
    by_cases e : j = s.n
    · rw [e, upd_at] at hq; cases hq; exact ⟨by simp [e], hg⟩
    · rw [upd_ne β _ e] at hq
      have := hs.low j q hq
      have := hgr.size
      exact ⟨by simp; omega, by omega⟩
  · intro k hk hn
    exact hold k hk (fun e => hn i p hi hl hp e.symm)
  · intro j q hj hq
    by_cases e : j = s.n
    · rw [e, upd_at] at hq
      cases hq
      rcases hgg with h | h
      · exact .inr ⟨i, p, hi, hl, hp, h.symm⟩
      · exact .inl h
    · rw [upd_ne β _ e] at hq
      exact absurd (hs.low j q hq).1 (by omega)
  · intro j hj hlj
    simp only [live_set, live_clear] at hlj
    exact (hlj.resolve_left (by omega)).2
/-! Loads. -/
theorem run_loads {P : Program} {β : Beta} {nb T n : Nat} {cs : Array Value} {fr : Nat × Nat} {zs : List AV} {t : Tr AV}
    (hc : ∀ i v, cellAt n zs t i = some v → ∃ u, cs[i]? = some u ∧ Rep β v u) (off : Nat) : ∀ (k i : Nat) (l : List AV), loadN n zs t (off + i) k = some l →
    ∃ vs : List Value, (∀ (w : World) (acc : Array Value), w.heap[nb]? = some (.cells cs T fr) → (loadCellsFrom ⟨nb, off, none⟩ i k acc).run P w = .ok (acc ++ vs.toArray) w) ∧ Reps β l vs
  | 0, i, l, h => by
    cases h
    exact ⟨[], fun w acc _ => by simp [loadCellsFrom], rfl⟩
  | k + 1, i, l, h => by
    simp only [loadN] at h
    split at h
    · rename_i v hv
      split at h
      · rename_i l' hl'
        cases h
        obtain ⟨u, hu, hr⟩ := hc _ _ hv
        obtain ⟨vs, h1, h2⟩ := run_loads (P := P) (T := T) (fr := fr) (nb := nb) hc off k (i + 1) l' (by rw [← Nat.add_assoc]; exact hl')
        refine ⟨u :: vs, fun w acc hw => ?_, u, vs, rfl, hr, h2⟩
        have hcell : w.cell? ⟨nb, off + i, none⟩ = some u := by rw [cell_of_row w nb (off + i) cs T fr hw]; exact hu
        simp only [loadCellsFrom, addr_add, Sem.run_bind, run_load, hcell, Result.andThen_ok, h1 w (acc.push u) hw]
        simp
      · cases h
    · cases h
theorem run_loads0 {P : Program} {β : Beta} {nb T n : Nat} {cs : Array Value} {fr : Nat × Nat} {zs : List AV} {t : Tr AV}
    (hc : ∀ i v, cellAt n zs t i = some v → ∃ u, cs[i]? = some u ∧ Rep β v u) {off k : Nat} {l : List AV} (h : loadN n zs t off k = some l) :
    ∃ vs : List Value, (∀ w : World, w.heap[nb]? = some (.cells cs T fr) → (loadCells ⟨nb, off, none⟩ k).run P w = .ok vs.toArray w) ∧ Reps β l vs := by
  obtain ⟨vs, h1, h2⟩ := run_loads (P := P) (T := T) (fr := fr) (nb := nb) hc off k 0 l (by simpa using h)
  exact ⟨vs, fun w hw => by unfold loadCells; rw [h1 w #[] hw]; simp, h2⟩
/-! Stores. -/
def wr (cs : Array Value) (o : Nat) : List Value → Array Value
  | [] => cs
  | v :: r => wr (cs.setIfInBounds o v) (o + 1) r
theorem wr_size : ∀ (vs : List Value) (cs : Array Value) (o : Nat), (wr cs o vs).size = cs.size
  | [], _, _ => rfl
  | v :: r, cs, o => by rw [wr, wr_size r]; simp
theorem wr_out : ∀ (vs : List Value) (cs : Array Value) (o i : Nat), (i < o ∨ o + vs.length ≤ i) → (wr cs o vs)[i]? = cs[i]?
  | [], _, _, _, _ => rfl
  | v :: r, cs, o, i, h => by
    rw [wr, wr_out r _ _ _ (by simp at h; omega), Array.getElem?_setIfInBounds, if_neg (by simp at h; omega)]
theorem wr_in : ∀ (vs : List Value) (cs : Array Value) (o i : Nat), o + vs.length ≤ cs.size → i < vs.length → (wr cs o vs)[o + i]? = vs[i]?
  | [], _, _, _, _, h => absurd h (by simp)
  | v :: r, cs, o, 0, h, _ => by
    rw [wr, wr_out r _ _ _ (by omega), Nat.add_zero, Array.getElem?_setIfInBounds, if_pos rfl, if_pos (by simp at h; omega)]
    rfl
  | v :: r, cs, o, i + 1, h, hi => by
    rw [wr, show o + (i + 1) = o + 1 + i by omega, wr_in r _ _ _ (by simp at h ⊢; omega) (by simpa using hi)]
    rfl
theorem run_stores {P : Program} {nb T off : Nat} : ∀ (vs : List Value) (i : Nat) (w : World) (cs : Array Value), w.heap[nb]? = some (.cells cs T (0, 0)) → off + i + vs.length ≤ cs.size → (∀ u ∈ vs, u.oneCell' = true) →
    ∃ w', (storeCells ⟨nb, off, none⟩ vs i).run P w = .ok () w' ∧ w'.heap = w.heap.setIfInBounds nb (.cells (wr cs (off + i) vs) T (0, 0)) ∧ w'.os = w.os ∧ w'.tape = w.tape ∧ w'.output = w.output
  | [], i, w, cs, hw, _, _ => by
    refine ⟨w, rfl, ?_, rfl, rfl, rfl⟩
    apply Array.ext_getElem?
    intro k
    rw [Array.getElem?_setIfInBounds]
    by_cases e : nb = k
    · subst e
      have hlt : nb < w.heap.size := (Array.getElem?_eq_some_iff.1 hw).1
      rw [if_pos rfl, if_pos hlt, hw, wr]
    · rw [if_neg e]
  | v :: r, i, w, cs, hw, hlen, h1 => by
    have hv : v.oneCell' = true := h1 v (by simp)
    have hin : off + i < cs.size := by simp at hlen; omega
    have hcell : w.cell? ⟨nb, off + i, none⟩ = some cs[off + i] := by rw [cell_of_row w nb (off + i) cs T _ hw]; simp [hin]
    have hfro : w.frozen? ⟨nb, off + i, none⟩ = false := frozen_of_row w nb (off + i) cs T hw
    have hheap := heap_setCell_same w nb (off + i) cs T v hw
    obtain ⟨w', a, b, c, d, e⟩ := run_stores (P := P) (nb := nb) (T := T) (off := off) r (i + 1) (w.setCell ⟨nb, off + i, none⟩ v) (cs.setIfInBounds (off + i) v) hheap (by simp at hlen ⊢; omega) (fun u hu => h1 u (by simp [hu]))
    refine ⟨w', ?_, ?_, c, d, e⟩
    · simp only [storeCells, addr_add, Sem.run_bind]
      rw [run_store P w _ v .plain hv]
      simp only [hcell, hfro, Bool.false_eq_true, if_false, Result.andThen_ok, a]
    · rw [b, wr, show off + i + 1 = off + (i + 1) by omega]
      apply Array.ext_getElem?
      intro k
      rw [Array.getElem?_setIfInBounds, Array.getElem?_setIfInBounds]
      by_cases e : nb = k
      · simp only [if_pos e, World.setCell, Array.size_modify]
      · rw [if_neg e, if_neg e]
        exact heap_setCell_other w ⟨nb, off + i, none⟩ k v (fun e' => e e'.symm)
theorem get_storeL : ∀ (l : List AV) (t : Tr AV) (o i : Nat), (storeL t o l).get (path i) = if o ≤ i ∧ i < o + l.length then l[i - o]? else t.get (path i)
  | [], t, o, i => by rw [if_neg (by simp only [List.length_nil]; omega)]; rfl
  | v :: l, t, o, i => by
    rw [storeL, get_storeL l, get_put]
    by_cases e : i = o
    · subst e
      rw [if_neg (by omega), if_pos rfl, if_pos (by simp)]
      simp
    · by_cases h : o + 1 ≤ i ∧ i < o + 1 + l.length
      · rw [if_pos h, if_pos (by simp; omega), show i - o = i - (o + 1) + 1 by omega]
        rfl
      · rw [if_neg h, if_neg e, if_neg (by simp; omega)]
theorem cellAt_lt {n : Nat} {zs : List AV} {t : Tr AV} {i : Nat} {v : AV} (h : cellAt n zs t i = some v) : i < n := by
  unfold cellAt at h
  cases e : Nat.blt i n with
  | true => have : i + 1 ≤ n := by simpa [Nat.blt, Nat.ble_eq] using e
            omega
  | false => rw [e] at h; cases h
theorem blt_of {a b : Nat} (h : a < b) : Nat.blt a b = true := by simp [Nat.blt, Nat.ble_eq]; omega
theorem cellAt_storeL {n : Nat} {zs : List AV} {t : Tr AV} {o : Nat} {l : List AV} {i : Nat} {v : AV} (h : cellAt n zs (storeL t o l) i = some v) :
    (o ≤ i ∧ i < o + l.length ∧ l[i - o]? = some v) ∨ (¬ (o ≤ i ∧ i < o + l.length) ∧ cellAt n zs t i = some v) := by
  have hi := cellAt_lt h
  unfold cellAt at h ⊢
  rw [blt_of hi] at h ⊢
  simp only [cond_true] at h ⊢
  rw [get_storeL] at h
  by_cases hc : o ≤ i ∧ i < o + l.length
  · rw [if_pos hc] at h
    left
    refine ⟨hc.1, hc.2, ?_⟩
    have : i - o < l.length := by omega
    rw [List.getElem?_eq_getElem this] at h ⊢
    exact h
  · rw [if_neg hc] at h
    exact .inr ⟨hc, h⟩
theorem allScalar_all : ∀ {l : List AV}, allScalar l = true → ∀ a ∈ l, a.scalar = true
  | [], _, _, h => by cases h
  | b :: l, e, a, h => by
    simp only [allScalar, Bool.and_eq_true] at e
    cases h with
    | head => exact e.1
    | tail _ h => exact allScalar_all e.2 a h
theorem oneCells {β : Beta} : ∀ {l : List AV} {vs : List Value}, allScalar l = true → Reps β l vs → ∀ u ∈ vs, u.oneCell' = true
  | [], _, _, e, u, hu => by rw [e] at hu; cases hu
  | a :: l, _, h, ⟨v, r, e, ha, hl⟩, u, hu => by
    simp only [allScalar, Bool.and_eq_true] at h
    rw [e] at hu
    cases hu with
    | head => exact oneCell_of h.1 ha
    | tail _ hu => exact oneCells h.2 hl u hu
theorem storeAt_ok {P : Program} {lo : Nat} {β : Beta} {s s' : St} {w : World} (hs : Sit β s w) {b off : Nat} {l : List AV} (h : storeAt s lo b off l = some s') {p : Nat × Nat} (hp : β b = some p) {vs : List Value} (hv : Reps β l vs) :
    ∃ w', (storeCells ⟨p.1, off, none⟩ vs 0).run P w = .ok () w' ∧ Ext lo β s w β s' w' := by
  unfold storeAt at h
  split at h
  · rename_i T n zs t o hb
    obtain ⟨q, hq, cs, T', fr, hw, hsz, hn, hopn, hrw, hc⟩ := hs.blk b _ hb
    rw [hp] at hq
    cases hq
    obtain ⟨rfl, rfl⟩ := hrw rfl
    cases hcond : (Nat.ble lo b && Nat.ble (off + l.length) n && allScalar l) with
    | false => rw [hcond] at h; cases h
    | true =>
      rw [hcond] at h
      cases h
      simp only [Bool.and_eq_true, Nat.ble_eq] at hcond
      obtain ⟨⟨h1, h2⟩, h3⟩ := hcond
      have hlen := Reps.length hv
      obtain ⟨w', a, b', c, d, e⟩ := run_stores (P := P) (nb := p.1) (T := T') (off := off) vs 0 w cs hw (by omega) (oneCells h3 hv)
      refine ⟨w', a, ext_put hs ⟨_, hb⟩ h1 hp (o := .cells (wr cs (off + 0) vs) T' (0, 0)) ?_ b' c d e⟩
      refine ⟨_, _, _, rfl, by rw [wr_size]; exact hsz, hn, hopn, fun _ => ⟨rfl, rfl⟩, ?_⟩
      intro i v hi
      have hin := cellAt_lt hi
      rcases cellAt_storeL hi with ⟨g1, g2, g3⟩ | ⟨g1, g2⟩
      · obtain ⟨u, hu, hr⟩ := hv.at (i - off) v g3
        refine ⟨u, ?_, hr⟩
        have := wr_in vs cs (off + 0) (i - off) (by omega) (by omega)
        rw [show off + 0 + (i - off) = i by omega] at this
        rw [this]; exact hu
      · obtain ⟨u, hu, hr⟩ := hc i v g2
        refine ⟨u, ?_, hr⟩
        rw [wr_out vs cs (off + 0) i (by omega)]; exact hu
  · cases h
theorem cellAt_rowOf {l : List AV} {i : Nat} {v : AV} (h : cellAt l.length [] (storeL .lf 0 l) i = some v) : l[i]? = some v := by
  rcases cellAt_storeL h with ⟨_, _, g⟩ | ⟨g, k⟩
  · simpa using g
  · have := cellAt_lt k
    omega
/-- A row whose cells are written out. -/
theorem brep_row {β : Beta} {l : List AV} {vs : List Value} (h : Reps β l vs) (T : TypeId) (opn : Bool) (more : List Value) (hm : opn = false → more = []) : BRep β (rowOf T l opn) (some (.cells (vs ++ more).toArray T (0, 0))) (vs.length + more.length) := by
  refine ⟨_, _, _, rfl, by simp, by rw [Reps.length h]; omega, fun e => by rw [hm e, Reps.length h]; rfl, fun _ => ⟨rfl, rfl⟩, ?_⟩
  intro i v hi
  obtain ⟨u, hu, hr⟩ := h.at i v (cellAt_rowOf hi)
  refine ⟨u, ?_, hr⟩
  rw [List.getElem?_toArray, List.getElem?_append_left (List.getElem?_eq_some_iff.1 hu).1]
  exact hu
/-- A row of zeros, in whose turns the zero value's cells come. -/
theorem brep_zero {β : Beta} {zs : List AV} {vs : List Value} (h : Reps β zs vs) (T n : Nat) (cs : Array Value) (hsz : cs.size = n) (hcs : ∀ i, i < n → cs[i]? = vs[i % vs.length]?) : BRep β (zeroRow T n zs) (some (.cells cs T (0, 0))) n := by
  refine ⟨_, _, _, rfl, hsz, Nat.le_refl _, fun _ => rfl, fun _ => ⟨rfl, rfl⟩, ?_⟩
  intro i v hi
  have hin := cellAt_lt hi
  unfold cellAt at hi
  rw [blt_of hin] at hi
  simp only [cond_true, get_lf] at hi
  obtain ⟨u, hu, hr⟩ := h.nth hi
  exact ⟨u, by rw [hcs i hin, Reps.length h]; exact hu, hr⟩
end Ev
end Go.Proofs.Ytnajbogmhhlpcaa
namespace Go.Proofs.Ytnajbogmhhlpcaa
open Go.RowKit
namespace Ev
set_option linter.unusedSectionVars false
variable [Env]
theorem ti_spec {P : Program} {t : TypeId} {i : TI} (h : ti P t = some i) : ∃ info z a, P.info? t = some info ∧ P.underlying t = some i.d ∧ info.size = i.size ∧ info.bytes = i.bytes ∧ info.zero = some z ∧ ofV z = some a ∧ i.zero = a.cells ∧ i.zv = a := by
  unfold ti at h
  split at h
  · rename_i info hinfo
    split at h
    · rename_i d hd
      split at h
      · rename_i zs hz
        cases h
        unfold zeroOf at hz
        split at hz
        · rename_i v hv
          exact ⟨info, v, zs, hinfo, hd, rfl, rfl, hv, hz, rfl, rfl⟩
        · cases hz
      · cases h
    · cases h
  · cases h
section
variable {P : Program} {t : TypeId} {i : TI} (h : ti P t = some i) (w : World)
include h
theorem run_under : (underlying t).run P w = .ok i.d w := by
  obtain ⟨info, z, a, h1, h2, _⟩ := ti_spec h
  simp [underlying, h2]
theorem run_size : (sizeOf t).run P w = .ok i.size w := by
  obtain ⟨info, z, a, h1, h2, h3, _⟩ := ti_spec h
  simp [sizeOf, typeInfo, h1, h3]
theorem run_aggq : (isAgg t).run P w = .ok i.isAgg w := by
  unfold isAgg TI.isAgg
  rw [Sem.run_bind, run_under h]
  cases i.d <;> rfl
theorem run_zero : ∃ z : Value, ∀ w : World, (zeroValue t).run P w = .ok z w ∧ ∀ β, Reps β i.zero z.cells.toList := by
  obtain ⟨info, z, a, h1, h2, h3, h4, h5, h6, h7, _⟩ := ti_spec h
  refine ⟨z, fun w => ⟨by simp [zeroValue, typeInfo, h1, h5], fun β => ?_⟩⟩
  rw [h7]
  exact cells_rep (ofV_rep h6)
theorem run_zv : ∃ z : Value, ∀ w : World, (zeroValue t).run P w = .ok z w ∧ ∀ β, Rep β i.zv z := by
  obtain ⟨info, z, a, h1, h2, h3, h4, h5, h6, h7, h8⟩ := ti_spec h
  refine ⟨z, fun w => ⟨by simp [zeroValue, typeInfo, h1, h5], fun β => ?_⟩⟩
  rw [h8]
  exact ofV_rep h6
end
/-- A value's making: what the runner says comes of it. -/
def SG (P : Program) (x : Sem Value) (lo : Nat) (β : Beta) (s : St) (w : World) (v : AV) (s' : St) : Prop :=
  ∃ u w' β', x.run P w = .ok u w' ∧ Ext lo β s w β' s' w' ∧ Rep β' v u
/-- A value that is made without a look at the memory, or with a look alone. -/
def VG (P : Program) (x : Sem Value) (β : Beta) (w : World) (v : AV) : Prop := ∃ u, x.run P w = .ok u w ∧ Rep β v u
def SU (P : Program) (x : Sem Unit) (lo : Nat) (β : Beta) (s : St) (w : World) (s' : St) : Prop :=
  ∃ w' β', x.run P w = .ok () w' ∧ Ext lo β s w β' s' w'
section
variable {P : Program} {lo : Nat} {β : Beta} {s : St} {w : World}
theorem SG.stay (hs : Sit β s w) {x : Sem Value} {v : AV} {u : Value} (h : x.run P w = .ok u w) (hr : Rep β v u) : SG P x lo β s w v s := ⟨u, w, β, h, Ext.refl hs, hr⟩
theorem alloc_ok (hs : Sit β s w) {T : TypeId} {i : TI} (hi : ti P T = some i) : SG P (Instr.alloc T true (.tuple #[])) lo β s w (.ptr s.n 0) (s.new (zeroRow T i.zero.length i.zero)) := by
  obtain ⟨z, hz⟩ := run_zero hi
  have hz0 := (hz w).2
  have hlen := Reps.length (hz0 β)
  refine ⟨.pointer (some ⟨w.heap.size, 0, none⟩), w.alloc (.cells z.cells T), upd β s.n (w.heap.size, i.zero.length), ?_, ext_new hs ?_, ⟨_, _, upd_at _ _ _, rfl⟩⟩
  · simp only [Instr.alloc, Sem.run_bind, (hz w).1, Result.andThen_ok, newVar, newRow, run_newObj, Sem.run_pure]
    rfl
  · refine brep_zero (hz0 _) T _ _ (by simpa using hlen) ?_
    intro k hk
    rw [Nat.mod_eq_of_lt (by omega)]
    simp
theorem box_ok (hs : Sit β s w) {T : TypeId} {v : AV} {u : Value} (hv : Rep β v u) : SG P (Instr.box T u) lo β s w (.ptr s.n 0) (s.new (rowOf T v.cells false)) := by
  have hc := cells_rep hv
  refine ⟨.pointer (some ⟨w.heap.size, 0, none⟩), w.alloc (.cells u.cells T), upd β s.n (w.heap.size, u.cells.toList.length + ([] : List Value).length), ?_, ext_new hs ?_, ⟨_, _, upd_at _ _ _, rfl⟩⟩
  · simp only [Instr.box, newVar, newRow, Sem.run_bind, run_newObj, Result.andThen_ok, Sem.run_pure]
    rfl
  · have := brep_row (hc.mono (hs.upd_le (w.heap.size, u.cells.toList.length + ([] : List Value).length))) T false [] (fun _ => rfl)
    simpa using this
theorem load_ok (hs : Sit β s w) {T : TypeId} {i : TI} (hi : ti P T = some i) {b off : Nat} {v : AV} {u : Value} (hu : Rep β (.ptr b off) u) (h : loadAt s i b off = some v) : VG P (Instr.loadAt T u) β w v := by
  obtain ⟨nb, t, hb, rfl⟩ := hu
  unfold loadAt at h
  split at h
  · rename_i T0 n zs tr opn rw' hblk
    obtain ⟨p, hp, cs, T', fr, hw, hsz, hn, _, _, hc⟩ := hs.blk b _ hblk
    rw [hb] at hp
    cases hp
    cases hagg : i.isAgg with
    | true =>
      rw [hagg] at h
      simp only [cond_true] at h
      cases hl : loadN n zs tr off i.size with
      | none => rw [hl] at h; cases h
      | some l =>
        rw [hl] at h
        cases h
        obtain ⟨vs, h1', h2⟩ := run_loads0 (P := P) (nb := nb) (T := T') (fr := fr) hc hl
        have h1 := h1' w hw
        refine ⟨.agg vs.toArray, ?_, ⟨_, rfl, h2⟩⟩
        simp only [Instr.loadAt, Instr.sureAddr, loadVar, Sem.run_bind, Sem.run_pure, Result.andThen_ok, run_aggq hi, hagg, run_size hi, h1, if_true]
    | false =>
      rw [hagg] at h
      simp only [cond_false] at h
      obtain ⟨x, hx, hr⟩ := hc _ _ h
      refine ⟨x, ?_, hr⟩
      have hcell : w.cell? ⟨nb, off, none⟩ = some x := by rw [cell_of_row w nb off cs T' fr hw]; exact hx
      simp only [Instr.loadAt, Instr.sureAddr, loadVar, Sem.run_bind, Sem.run_pure, Result.andThen_ok, run_aggq hi, hagg, Bool.false_eq_true, if_false, run_load, hcell]
  · cases h
theorem store_ok (hs : Sit β s w) {T : TypeId} {i : TI} (hi : ti P T = some i) {b off : Nat} {v : AV} {u x : Value} {s' : St} (hu : Rep β (.ptr b off) u) (hv : Rep β v x) (hsz : (v.cells.length == i.size) = true) (h : storeAt s lo b off v.cells = some s') :
    SU P (Instr.storeAt T u x) lo β s w s' := by
  obtain ⟨nb, t, hb, rfl⟩ := hu
  have hc := cells_rep hv
  obtain ⟨w', h1, h2⟩ := storeAt_ok (P := P) hs h hb hc
  refine ⟨w', β, ?_, h2⟩
  have hz : x.cells.size = i.size := by
    have := Reps.length hc
    have h3 := eq_of_beq hsz
    rw [Array.length_toList] at this
    omega
  simp only [Instr.storeAt, Instr.sureAddr, storeVar, Sem.run_bind, Sem.run_pure, Result.andThen_ok, run_size hi, hz, ne_eq, not_true_eq_false, if_false, h1]
theorem part_ok {i : TI} {e : TypeId} (hi : ti P e = some i) {cs : List AV} {vs : Array Value} (hv : Reps β cs vs.toList) {off : Nat} {a : AV} (h : partAV i cs off = some a) : ∃ u, (∀ w : World, (part e vs off).run P w = .ok u w) ∧ Rep β a u := by
  unfold partAV at h
  cases hagg : i.isAgg with
  | true =>
    rw [hagg] at h
    simp only [cond_true] at h
    cases hc : Nat.ble (off + i.size) cs.length with
    | false => rw [hc] at h; cases h
    | true =>
      rw [hc] at h
      cases h
      refine ⟨.agg (vs.extract off (off + i.size)), fun w => ?_, _, rfl, ?_⟩
      · simp only [part, Sem.run_bind, run_aggq hi, hagg, Result.andThen_ok, if_true, run_size hi, Sem.run_pure]
      · have := (hv.drop off).take i.size
        rw [Array.toList_extract]
        simpa [List.extract_eq_take_drop] using this
  | false =>
    rw [hagg] at h
    simp only [cond_false] at h
    obtain ⟨u, hu, hr⟩ := hv.nth h
    refine ⟨u, fun w => ?_, hr⟩
    have : vs[off]? = some u := by simpa using hu
    simp only [part, Sem.run_bind, run_aggq hi, hagg, Result.andThen_ok, Bool.false_eq_true, if_false, this, Sem.run_pure]
/-! Structs, arrays and slices written out. -/
theorem foldl_wr (off : Nat) : ∀ (l : List Value) (k : Nat) (cs : Array Value), (l.zipIdx k).foldl (fun cs (x : Value × Nat) => cs.setIfInBounds (off + x.2) x.1) cs = wr cs (off + k) l
  | [], _, _ => rfl
  | v :: l, k, cs => by
    rw [List.zipIdx_cons, List.foldl_cons, foldl_wr off l (k + 1)]
    rfl
theorem wr_list (cs : Array Value) (off : Nat) (l : List Value) (h : off + l.length ≤ cs.size) : (wr cs off l).toList = cs.toList.take off ++ l ++ cs.toList.drop (off + l.length) := by
  apply List.ext_getElem?
  intro i
  rw [Array.getElem?_toList]
  have ht : (cs.toList.take off).length = off := by rw [List.length_take, Array.length_toList]; omega
  by_cases h1 : i < off
  · rw [wr_out _ _ _ _ (.inl h1), List.append_assoc, List.getElem?_append_left (by omega), List.getElem?_take_of_lt h1, Array.getElem?_toList]
  · by_cases h2 : i < off + l.length
    · obtain ⟨k, rfl⟩ : ∃ k, i = off + k := ⟨i - off, by omega⟩
      rw [wr_in _ _ _ _ h (by omega), List.append_assoc, List.getElem?_append_right (by omega), List.getElem?_append_left (by omega), ht, show off + k - off = k by omega]
    · rw [wr_out _ _ _ _ (.inr (by omega)), List.getElem?_append_right (by rw [List.length_append]; omega), List.length_append, ht, List.getElem?_drop, Array.getElem?_toList, show off + l.length + (i - (off + l.length)) = i by omega]
def PartsRep (β : Beta) : List (Nat × AV) → List (Nat × Value) → Prop
  | [], l => l = []
  | (i, v) :: r, l => ∃ u m, l = (i, u) :: m ∧ Rep β v u ∧ PartsRep β r m
theorem fill_ok {place : Nat → Option (Nat × Nat)} : ∀ (ps : List (Nat × AV)) (qs : List (Nat × Value)) (l l' : List AV) (vs : Array Value), PartsRep β ps qs → Reps β l vs.toList → putParts place l ps = some l' →
    ∃ us, Instr.fill place vs qs = some us ∧ Reps β l' us.toList
  | [], _, l, l', vs, e, hl, h => by cases h; rw [e]; exact ⟨vs, rfl, hl⟩
  | (i, v) :: r, _, l, l', vs, ⟨u, m, e, hv, hr⟩, hl, h => by
    rw [e]
    simp only [putParts] at h
    split at h
    · cases h
    · rename_i off size hp
      have hc := cells_rep hv
      have hlen := Reps.length hc
      rw [Array.length_toList] at hlen
      have hll := Reps.length hl
      rw [Array.length_toList] at hll
      cases hcond : (v.cells.length == size && Nat.ble (off + size) l.length) with
      | false => rw [hcond] at h; cases h
      | true =>
        rw [hcond] at h
        simp only [Bool.and_eq_true, beq_iff_eq, Nat.ble_eq] at hcond
        have hb : off + u.cells.toList.length ≤ vs.size := by rw [Array.length_toList]; omega
        have hw := wr_list vs off u.cells.toList hb
        obtain ⟨us, h1, h2⟩ := fill_ok (place := place) r m _ l' (wr vs off u.cells.toList) hr (by
          rw [hw, Array.length_toList, show u.cells.size = size by omega]
          exact ((hl.take off).append hc).append (hl.drop (off + size))) h
        refine ⟨us, ?_, h2⟩
        have hz := foldl_wr off u.cells.toList 0 vs
        rw [Nat.add_zero] at hz
        have hf : u.cells.zipIdx.foldl (fun cs (x : Value × Nat) => cs.setIfInBounds (off + x.2) x.1) vs = wr vs off u.cells.toList := by
          rw [← hz, ← Array.foldl_toList]; simp
        simp only [Instr.fill, hp]
        rw [if_neg (by simp; omega)]
        exact (congrArg (fun z => Instr.fill place z m) hf).trans h1
theorem places_ok : ∀ (fs : List Field) (pl : List (Nat × Nat)), sizesOf P fs = some pl → fs.mapM (fun f => (P.info? f.type).map fun i => (f.offset, i.size)) = some pl
  | [], _, h => by cases h; rfl
  | f :: l, pl, h => by
    simp only [sizesOf] at h
    split at h
    · rename_i i hi
      split at h
      · rename_i r hr
        cases h
        obtain ⟨info, z, a, h1, h2, h3, _⟩ := ti_spec hi
        simp [List.mapM_cons, h1, h3, places_ok l r hr]
      · cases h
    · cases h
theorem build_struct_ok (hs : Sit β s w) {t : TypeId} {i : TI} (hi : ti P t = some i) {fs : Array Field} (hd : i.d = .struct fs) {pl : List (Nat × Nat)} (hp : sizesOf P fs.toList = some pl) {ps : List (Nat × AV)} {qs : Array (Nat × Value)} (hq : PartsRep β ps qs.toList) {l : List AV}
    (h : putParts (fun k => pl[k]?) i.zero ps = some l) : SG P (Instr.build t qs) lo β s w (.agg l) s := by
  obtain ⟨z, hz⟩ := run_zero hi
  obtain ⟨us, h1, h2⟩ := fill_ok (place := fun k => pl[k]?) ps qs.toList i.zero l z.cells hq ((hz w).2 β) h
  refine .stay hs (u := .agg us) ?_ ⟨us, rfl, h2⟩
  have hpl := run_places (P := P) w fs.toList pl (places_ok _ _ hp)
  have hu := run_under hi w
  rw [hd] at hu
  simp only [Instr.build, Sem.run_bind, (hz w).1, Result.andThen_ok, hu]
  have e : (fs.mapM fun f => do pure (f.offset, ← sizeOf f.type) : Sem (Array (Nat × Nat))).run P w = .ok pl.toArray w := by
    rw [Array.mapM_eq_mapM_toList]
    have e2 : (fun f : Field => (do pure (f.offset, ← sizeOf f.type) : Sem (Nat × Nat))) = fun f => Prod.mk f.offset <$> sizeOf f.type := rfl
    rw [e2]
    simp [hpl]
  rw [e]
  simp only [Result.andThen_ok]
  have e3 : (fun x : Nat => pl.toArray[x]?) = fun k : Nat => pl[k]? := by funext k; simp
  rw [e3, h1]
  rfl
theorem build_array_ok (hs : Sit β s w) {t e : TypeId} {n : Nat} {i j : TI} (hi : ti P t = some i) (hd : i.d = .array n e) (hj : ti P e = some j) {ps : List (Nat × AV)} {qs : Array (Nat × Value)} (hq : PartsRep β ps qs.toList) {l : List AV}
    (h : putParts (fun k => some (k * j.size, j.size)) i.zero ps = some l) : SG P (Instr.build t qs) lo β s w (.agg l) s := by
  obtain ⟨z, hz⟩ := run_zero hi
  obtain ⟨us, h1, h2⟩ := fill_ok (place := fun k => some (k * j.size, j.size)) ps qs.toList i.zero l z.cells hq ((hz w).2 β) h
  refine .stay hs (u := .agg us) ?_ ⟨us, rfl, h2⟩
  have hu := run_under hi w
  rw [hd] at hu
  simp only [Instr.build, Sem.run_bind, (hz w).1, Result.andThen_ok, hu, run_size hj, h1]
  rfl
theorem rep_length (zs : List AV) : ∀ n, (rep zs n).length = n * zs.length
  | 0 => by simp [rep]
  | n + 1 => by rw [rep, List.length_append, rep_length zs n, Nat.succ_mul]; omega
theorem rep_at (zs : List AV) : ∀ (n i : Nat), i < n * zs.length → (rep zs n)[i]? = zs[i % zs.length]?
  | 0, i, h => by omega
  | n + 1, i, h => by
    rw [rep]
    by_cases hi : i < zs.length
    · rw [List.getElem?_append_left hi, Nat.mod_eq_of_lt hi]
    · rw [List.getElem?_append_right (by omega), rep_at zs n (i - zs.length) (by rw [Nat.succ_mul] at h; omega)]
      congr 1
      conv => rhs; rw [show i = (i - zs.length) + zs.length by omega, Nat.add_mod_right]
theorem cycle_reps {zs : List AV} {vs : Array Value} (h : Reps β zs vs.toList) (n : Nat) : Reps β (rep zs n) ((Array.range (n * zs.length)).map (vs[· % vs.size]!)).toList := by
  have hl := Reps.length h
  rw [Array.length_toList] at hl
  refine Reps.of_at (by simp [rep_length]) ?_
  intro i a u ha hu
  have hi : i < n * zs.length := by
    have := (List.getElem?_eq_some_iff.1 ha).1
    rwa [rep_length] at this
  rw [rep_at zs n i hi] at ha
  obtain ⟨x, hx, hr⟩ := h.at _ a ha
  have hpos : 0 < zs.length := by
    rcases Nat.eq_zero_or_pos zs.length with e | e
    · rw [e] at hi; omega
    · exact e
  have hlt : i % vs.size < vs.size := Nat.mod_lt _ (by omega)
  have : u = x := by
    simp only [Array.toList_map, List.getElem?_map, Array.toList_range, List.getElem?_range hi, Option.map_some, Option.some.injEq] at hu
    rw [← hu, getElem!_pos vs (i % vs.size) hlt]
    have hx' : vs[i % vs.size]? = some x := by rw [hl]; simpa using hx
    rw [Array.getElem?_eq_getElem hlt] at hx'
    exact Option.some.inj hx'
  rw [this]; exact hr
theorem buildSlice_ok (hs : Sit β s w) {t e : TypeId} {n : Nat} {i j : TI} (hi : ti P t = some i) (hd : i.d = .slice e) (hj : ti P e = some j) (hn : Nat.ble (n * j.size) 1048576 = true) (hz : (j.zero.length == j.size) = true) {ps : List (Nat × AV)} {qs : Array (Nat × Value)} (hq : PartsRep β ps qs.toList) {l : List AV}
    (h : putParts (fun k => some (k * j.size, j.size)) (rep j.zero n) ps = some l) : SG P (Instr.buildSlice t n qs) lo β s w (.slc s.n 0 n (.fix n)) (s.new (rowOf e l false)) := by
  obtain ⟨z, hz0⟩ := run_zero hj
  have hz1 := eq_of_beq hz
  rw [Nat.ble_eq] at hn
  have hzl := Reps.length ((hz0 w).2 β)
  rw [Array.length_toList] at hzl
  have hcyc := cycle_reps ((hz0 w).2 β) n
  rw [hz1] at hcyc
  obtain ⟨us, h1, h2⟩ := fill_ok (place := fun k => some (k * j.size, j.size)) ps qs.toList (rep j.zero n) l ((Array.range (n * j.size)).map (z.cells[· % z.cells.size]!)) hq hcyc h
  refine ⟨.slice (some ⟨w.heap.size, 0, none⟩) n n, w.alloc (.cells us e), upd β s.n (w.heap.size, us.toList.length + ([] : List Value).length), ?_, ext_new hs ?_, ⟨_, _, n, upd_at _ _ _, rfl, Nat.le_refl _, rfl⟩⟩
  · have hu := run_under hi w
    rw [hd] at hu
    have hlim : ¬ (n * j.size > 2 ^ 24) := by omega
    simp only [Instr.buildSlice, Sem.run_bind, Result.andThen_ok, hu, run_size hj, hlim, if_false]
    by_cases e0 : n * j.size = 0
    · have : ((Array.range (n * j.size)).map (z.cells[· % z.cells.size]!)) = #[] := by rw [e0]; simp
      rw [this] at h1
      have e4 : Array.map (fun _ : Nat => (default : Value)) (Array.range 0) = #[] := by simp
      simp [e0]
      rw [e4, h1]
      rfl
    · simp only [e0, if_false, Sem.run_bind, (hz0 w).1, Result.andThen_ok, Sem.run_pure, h1]
      rfl
  · have := brep_row (h2.mono (hs.upd_le (w.heap.size, us.toList.length + ([] : List Value).length))) e false [] (fun _ => rfl)
    simpa using this
end
end Ev
end Go.Proofs.Ytnajbogmhhlpcaa
namespace Go.Proofs.Ytnajbogmhhlpcaa
open Go.RowKit
namespace Ev
set_option linter.unusedSectionVars false
variable [Env]
theorem wrapK_eq (k : IntKind) (n : Int) : wrapK k n = k.wrap n := by
  unfold wrapK
  split
  · rename_i m
    cases h : Nat.blt m 9223372036854775808 with
    | true =>
      have h' : m + 1 ≤ 9223372036854775808 := by simpa [Nat.blt, Nat.ble_eq] using h
      rw [cond_true, IntWalk.i64_in _ (by simp only [Int.ofNat_eq_natCast]; omega)]
    | false => rfl
  · rfl
section
variable {P : Program} {β : Beta} {w : World}
theorem guard_pure {op : BinOp} {t : TypeId} {x y : Operand} {a b : Value} (h : ¬ (a = .nilIface ∧ b = .nilIface)) (h2 : ∀ xs ys, a = .agg xs → b = .agg ys → P.eqGuardType P.depth t = false) : (eqGuard op t x y a b).run P w = .ok () w := by
  unfold eqGuard
  cases op <;> first
    | rfl
    | (simp only [Bool.not_true, Bool.false_eq_true, if_false]
       split
       · exact absurd ⟨rfl, rfl⟩ h
       · simp [h2 _ _ rfl rfl]
       · rfl)
theorem int_ok {op : BinOp} {t : TypeId} {k : IntKind} {a b : Int} {v : AV} (h1 : op ≠ .shl) (h2 : op ≠ .shr) (h : binInt op k a b = some v) : VG P (binOp op t (.int k a) (.int k b)) β w v := by
  cases op <;> first | exact absurd rfl h1 | exact absurd rfl h2 | skip
  case quo =>
    simp only [binInt] at h
    cases hb : (b == 0) with
    | true => rw [hb] at h; cases h
    | false =>
      rw [hb] at h
      cases h
      have : b ≠ 0 := by simpa using hb
      exact ⟨.int k (k.wrap (a.tdiv b)), by simp [binOp, Op.intDiv, this], by rw [wrapK_eq]; rfl⟩
  case rem =>
    simp only [binInt] at h
    cases hb : (b == 0) with
    | true => rw [hb] at h; cases h
    | false =>
      rw [hb] at h
      cases h
      have : b ≠ 0 := by simpa using hb
      exact ⟨.int k (a.tmod b), by simp [binOp, Op.intDiv, this], rfl⟩
  all_goals
    simp only [binInt] at h
    cases h
    refine ⟨_, by simp only [binOp, ne_eq, not_true_eq_false, if_false, Op.intArith, Op.intBits, Op.intCmp, Sem.run_pure]; rfl, ?_⟩
    first | rfl | (rw [wrapK_eq]; rfl)
theorem shift_ok {op : BinOp} {t : TypeId} {k k' : IntKind} {a b : Int} {v : AV} (h1 : op = .shl ∨ op = .shr) (h : shiftInt op k a b = some v) : VG P (binOp op t (.int k a) (.int k' b)) β w v := by
  unfold shiftInt at h
  cases hb : decide (b < 0) with
  | true => rw [hb] at h; cases h
  | false =>
    rw [hb] at h
    have hn : ¬ b < 0 := of_decide_eq_false hb
    rcases h1 with rfl | rfl <;> simp only [cond_false] at h <;> cases h
    · exact ⟨_, by simp only [binOp, Op.shift, hn, if_false, Sem.run_pure], rfl⟩
    · exact ⟨_, by simp only [binOp, Op.shift, hn, if_false, Sem.run_pure], rfl⟩
theorem sameBytes_eq : ∀ (x y : List UInt8), sameBytes x y = (x == y)
  | [], [] => rfl
  | [], _ :: _ => rfl
  | _ :: _, [] => rfl
  | a :: x, b :: y => by
    rw [sameBytes, sameBytes_eq x y, List.cons_beq_cons]
    congr 1
    rw [Bool.eq_iff_iff, Nat.beq_eq, beq_iff_eq]
    exact ⟨fun h => UInt8.toNat_inj.1 h, fun h => by rw [h]⟩
theorem lessBytes_eq : ∀ (x y : List UInt8), lessBytes x y = Op.bytesLess x y
  | x, [] => by cases x <;> rfl
  | [], _ :: _ => rfl
  | a :: x, b :: y => by
    rw [lessBytes, Op.bytesLess, lessBytes_eq x y]
    have h1 : Nat.blt a.toNat b.toNat = decide (a < b) := by
      rw [Bool.eq_iff_iff, decide_eq_true_iff, UInt8.lt_iff_toNat_lt, Nat.blt, Nat.ble_eq]
      omega
    have h2 : Nat.beq a.toNat b.toNat = (a == b) := by
      rw [Bool.eq_iff_iff, Nat.beq_eq, beq_iff_eq]
      exact ⟨fun h => UInt8.toNat_inj.1 h, fun h => by rw [h]⟩
    rw [h1, h2]
theorem toList_mk (l : List UInt8) : (ByteArray.mk l.toArray).toList = l := by
  rw [ByteArray.toList_eq]
theorem size_mk (l : List UInt8) : (ByteArray.mk l.toArray).size = l.length := by simp [ByteArray.size]
theorem append_mk (x y : List UInt8) : (ByteArray.mk x.toArray) ++ (ByteArray.mk y.toArray) = ByteArray.mk (x ++ y).toArray := by
  apply ByteArray.ext
  rw [ByteArray.data_append]
  simp
theorem str_ok {op : BinOp} {t : TypeId} {a b : List UInt8} {v : AV} (h : binStr op a b = some v) : VG P (binOp op t (.string ⟨a.toArray⟩) (.string ⟨b.toArray⟩)) β w v := by
  cases op <;> simp only [binStr] at h <;> try cases h
  case add =>
    cases hc : Nat.blt (a.length + b.length) 9223372036854775807 with
    | false => rw [hc] at h; cases h
    | true =>
      rw [hc] at h
      cases h
      have h' : a.length + b.length + 1 ≤ 9223372036854775807 := by simpa [Nat.blt, Nat.ble_eq] using hc
      refine ⟨.string ⟨(a ++ b).toArray⟩, ?_, rfl⟩
      have hm : ¬ (((a.length + b.length : Nat) : Int) > IntKind.i64.max) := by
        have : IntKind.i64.max = 9223372036854775807 := by decide
        omega
      simp only [binOp, Op.stringOp, size_mk, hm, if_false, Sem.run_pure, append_mk]
  all_goals
    exact ⟨_, by simp only [binOp, Op.stringOp, toList_mk, Sem.run_pure]; rfl, by simp only [Rep, lessBytes_eq, sameBytes_eq]⟩
theorem eqInts_ok {e : TypeId} {j : TI} {k0 : IntKind} (hj : ti P e = some j) (hd : j.d = .int k0) (h1 : j.size = 1) (d : Nat) (xs ys : Array Value) : ∀ (n o : Nat) (l r : List AV) (b : Bool), eqInts n l r = some b → Reps β l (xs.toList.drop o) → Reps β r (ys.toList.drop o) →
    (Op.eqItems (d + 1) e 1 xs ys (List.range' o n)).run P w = .ok b w
  | 0, _, [], [], b, h, _, _ => by cases h; rfl
  | n + 1, o, a :: l, a' :: r, b, h, ha, hb => by
    cases a with
    | int k x =>
      cases a' with
      | int k' y =>
        simp only [eqInts] at h
        obtain ⟨u, m, e1, rfl, hl⟩ := ha
        obtain ⟨u', m', e2, rfl, hr⟩ := hb
        have hx : xs[o]? = some (.int k x) := by
          have := congrArg List.head? e1
          simpa using this
        have hy : ys[o]? = some (.int k' y) := by
          have := congrArg List.head? e2
          simpa using this
        have hag : j.isAgg = false := by unfold TI.isAgg; rw [hd]
        have px : (part e xs (o * 1)).run P w = .ok (.int k x) w := by
          rw [Nat.mul_one]
          simp only [part, Sem.run_bind, run_aggq hj, hag, Result.andThen_ok, Bool.false_eq_true, if_false, hx, Sem.run_pure]
        have py : (part e ys (o * 1)).run P w = .ok (.int k' y) w := by
          rw [Nat.mul_one]
          simp only [part, Sem.run_bind, run_aggq hj, hag, Result.andThen_ok, Bool.false_eq_true, if_false, hy, Sem.run_pure]
        rw [List.range'_succ]
        simp only [Op.eqItems, Sem.run_bind, px, py, Result.andThen_ok]
        cases hk : (k == k') with
        | false => rw [hk] at h; cases h
        | true =>
          rw [hk] at h
          obtain rfl := eq_of_beq hk
          have he : (Op.equalIn (d + 1) e (.int k x) (.int k y)).run P w = .ok (x == y) w := by
            obtain ⟨info, z, a, g1, g2, _⟩ := ti_spec hj
            exact run_equalIn_int w d e k k0 x y (by rw [g2, hd])
          rw [he]
          simp only [cond_true] at h
          cases hxy : (x == y) with
          | false =>
            rw [hxy] at h
            cases h
            simp
          | true =>
            rw [hxy] at h
            simp only [cond_true] at h
            simp only [Result.andThen_ok, Bool.not_true, Bool.false_eq_true, if_false]
            refine eqInts_ok hj hd h1 d xs ys n (o + 1) l r b h ?_ ?_
            · have := congrArg List.tail e1
              simp only [List.tail_drop, List.tail_cons] at this
              rw [this]; exact hl
            · have := congrArg List.tail e2
              simp only [List.tail_drop, List.tail_cons] at this
              rw [this]; exact hr
      | _ => simp [eqInts] at h
    | _ => simp [eqInts] at h
  | 0, _, [], _ :: _, _, h, _, _ => by simp [eqInts] at h
  | 0, _, _ :: _, [], _, h, _, _ => by simp [eqInts] at h
  | 0, _, _ :: _, _ :: _, _, h, _, _ => by simp [eqInts] at h
  | n + 1, _, [], _, _, h, _, _ => by simp [eqInts] at h
  | n + 1, _, _ :: _, [], _, h, _, _ => by simp [eqInts] at h
theorem eqAV_ok {t : TypeId} {d : TypeDesc} (hun : (underlying t).run P w = .ok d w) (D : Nat) {x y : AV} {u v : Value} {b : Bool} (c1 : eqDesc d x = true) (c2 : eqDesc d y = true) (h : eqAV x y = some b) (hx : Rep β x u) (hy : Rep β y v) :
    (Op.equalIn (D + 1) t u v).run P w = .ok b w ∧ ¬ (u = .nilIface ∧ v = .nilIface) ∧ ∀ xs ys, u = .agg xs → v = .agg ys → P.eqGuardType P.depth t = false := by
  cases x <;> cases y <;> simp only [eqAV, reduceCtorEq, Option.some.injEq] at h
  all_goals
    cases d <;> simp only [eqDesc, reduceCtorEq, Bool.false_eq_true] at c1 c2
    subst h
    simp only [Rep] at hx hy
    first | (obtain rfl := hx) | (obtain ⟨_, _, _, rfl⟩ := hx) | (obtain ⟨_, _, _, _, rfl, _⟩ := hx) | (obtain ⟨_, _, rfl⟩ := hx) | (obtain ⟨_, rfl, _⟩ := hx)
    first | (obtain rfl := hy) | (obtain ⟨_, _, _, rfl⟩ := hy) | (obtain ⟨_, _, _, _, rfl, _⟩ := hy) | (obtain ⟨_, _, rfl⟩ := hy) | (obtain ⟨_, rfl, _⟩ := hy)
    refine ⟨?_, fun g => (by cases g.1 <;> cases g.2), fun _ _ g _ => (by cases g)⟩
    simp only [Op.equalIn, Sem.run_bind, hun, Result.andThen_ok, Sem.run_pure]
    try rfl
theorem eqBig_ok {t : TypeId} {i : TI} (hi : ti P t = some i) (D : Nat) {x y : AV} {u v : Value} {b : Bool} (h : eqBig P t i.d x y = some b) (hx : Rep β x u) (hy : Rep β y v) :
    (Op.equalIn (D + 2) t u v).run P w = .ok b w ∧ ¬ (u = .nilIface ∧ v = .nilIface) ∧ ∀ xs ys, u = .agg xs → v = .agg ys → P.eqGuardType P.depth t = false := by
  have hun := run_under hi w
  unfold eqBig at h
  split at h
  case h_3 => cases h
  case h_1 n e l r hd =>
    split at h
    case h_2 => cases h
    case h_1 j hj =>
    split at h
    case h_2 => cases h
    case h_1 k0 hjd =>
    cases hc : (j.size == 1 && !P.eqGuardType P.depth t) with
    | false => rw [hc] at h; cases h
    | true =>
      rw [hc] at h
      simp only [Bool.and_eq_true, beq_iff_eq, Bool.not_eq_true'] at hc
      obtain ⟨us, rfl, hl⟩ := hx
      obtain ⟨vs, rfl, hr⟩ := hy
      refine ⟨?_, fun g => (by cases g.1), fun _ _ _ _ => hc.2⟩
      obtain ⟨info, z, a, g1, g2, g3, _⟩ := ti_spec hj
      obtain ⟨info', z', a', g1', g2', _⟩ := ti_spec hi
      have hco : P.cellsOf e = 1 := by unfold Program.cellsOf; rw [g1]; simp [g3, hc.1]
      rw [run_equalIn_array w (D + 1) us vs (by rw [g2', hd]) g1, hco, List.range_eq_range']
      exact eqInts_ok hj hjd hc.1 D us vs n 0 l r b h (by simpa using hl) (by simpa using hr)
  case h_2 e a k c m hd =>
    split at h
    case h_2 => cases h
    case h_1 j hj =>
    cases hz : (j.size == 0) with
    | true => rw [hz] at h; cases h
    | false =>
      rw [hz] at h
      simp only [cond_false] at h
      cases hab : (a == c) with
      | false => rw [hab] at h; cases h
      | true =>
        rw [hab] at h
        cases h
        obtain rfl := eq_of_beq hab
        obtain ⟨nb, tt, hb, rfl⟩ := hx
        obtain ⟨nb', tt', hb', rfl⟩ := hy
        rw [hb] at hb'
        cases hb'
        refine ⟨?_, fun g => (by cases g.1), fun _ _ g _ => (by cases g)⟩
        have hz' : j.size ≠ 0 := by simpa using hz
        rw [hd] at hun
        simp only [Op.equalIn, Sem.run_bind, hun, Result.andThen_ok, run_size hj, ne_eq, hz', not_false_eq_true, if_true, sameAddr, beq_self_eq_true, Sem.run_pure]
        congr 1
        rw [Bool.eq_iff_iff]
        simp
/-- '==' of what is neither a number nor a text. -/
theorem eqAt_ok {t : TypeId} {x y : AV} {u v : Value} {b : Bool} (h : eqAt P t x y = some b) (hx : Rep β x u) (hy : Rep β y v) :
    (Op.equal t u v).run P w = .ok b w ∧ ¬ (u = .nilIface ∧ v = .nilIface) ∧ ∀ xs ys, u = .agg xs → v = .agg ys → P.eqGuardType P.depth t = false := by
  unfold eqAt at h
  split at h
  case h_2 => cases h
  case h_1 i hi =>
  split at h
  case h_1 b' hb => cases h; exact eqBig_ok hi 9998 hb hx hy
  case h_2 hb =>
    cases hc : (eqDesc i.d x && eqDesc i.d y) with
    | false => rw [hc] at h; cases h
    | true =>
      rw [hc] at h
      simp only [Bool.and_eq_true] at hc
      exact eqAV_ok (run_under hi w) 9999 hc.1 hc.2 h hx hy
theorem binOp_eql {t : TypeId} {u v : Value} (h1 : ∀ k n k' m, ¬ (u = .int k n ∧ v = .int k' m)) (h2 : ∀ a b, ¬ (u = .string a ∧ v = .string b)) (h3 : ∀ k n k' m, ¬ (u = .float k n ∧ v = .float k' m)) (h4 : ∀ k n m k' n' m', ¬ (u = .complex k n m ∧ v = .complex k' n' m')) :
    binOp .eql t u v = (do pure (.bool (← Op.equal t u v))) ∧ binOp .neq t u v = (do pure (.bool (!(← Op.equal t u v)))) := by
  cases u <;> cases v <;> first
    | exact absurd ⟨rfl, rfl⟩ (h1 _ _ _ _)
    | exact absurd ⟨rfl, rfl⟩ (h2 _ _)
    | exact absurd ⟨rfl, rfl⟩ (h3 _ _ _ _)
    | exact absurd ⟨rfl, rfl⟩ (h4 _ _ _ _ _ _)
    | exact ⟨rfl, rfl⟩
theorem eqAt_shape {t : TypeId} {x y : AV} {b : Bool} (h : eqAt P t x y = some b) : (∀ k n, x ≠ .int k n) ∧ (∀ s, x ≠ .str s) ∧ (∀ k n, x ≠ .flt k n) := by
  unfold eqAt at h
  split at h
  case h_2 => cases h
  case h_1 i hi =>
  split at h
  case h_1 b' hb =>
    unfold eqBig at hb
    split at hb <;> first | (cases hb; done) | exact ⟨by simp, by simp, by simp⟩
  case h_2 hb =>
    cases hc : (eqDesc i.d x && eqDesc i.d y) with
    | false => rw [hc] at h; cases h
    | true =>
      rw [hc] at h
      simp only [cond_true] at h
      cases x <;> first | (cases y <;> simp [eqAV] at h; done) | exact ⟨by simp, by simp, by simp⟩
/-! What is not known. -/
theorem VG.to {x : Sem Value} {r r' : AV} (h : VG P x β w r) (k : ∀ u, Rep β r u → Rep β r' u) : VG P x β w r' :=
  let ⟨u, a, b⟩ := h
  ⟨u, a, k u b⟩
theorem amongB_ok {b : List UInt8} : ∀ {l : List (List UInt8)}, amongB b l = true → b ∈ l
  | [], h => by cases h
  | x :: l, h => by
    simp only [amongB, Bool.or_eq_true, sameBytes_eq, beq_iff_eq] at h
    rcases h with rfl | h
    · simp
    · exact List.mem_cons_of_mem _ (amongB_ok h)
theorem eqSym_cases {op : BinOp} {b : Bool} {r : AV} (h : eqSym op b = some r) : (op = .eql ∧ r = .bool b) ∨ (op = .neq ∧ r = .bool (!b)) := by
  unfold eqSym at h
  split at h <;> cases h
  · exact .inl ⟨rfl, rfl⟩
  · exact .inr ⟨rfl, rfl⟩
theorem eqSym_int {op : BinOp} {t : TypeId} {k : IntKind} {z n : Int} {b : Bool} {r : AV} (hb : (z == n) = b) (h : eqSym op b = some r) : VG P (binOp op t (.int k z) (.int k n)) β w r := by
  rcases eqSym_cases h with ⟨rfl, rfl⟩ | ⟨rfl, rfl⟩
  · exact int_ok (by simp) (by simp) (by simp only [binInt, hb])
  · exact int_ok (by simp) (by simp) (by simp only [binInt, bne, hb])
theorem eqSym_str {op : BinOp} {t : TypeId} {x y : List UInt8} {b : Bool} {r : AV} (hb : sameBytes x y = b) (h : eqSym op b = some r) : VG P (binOp op t (.string ⟨x.toArray⟩) (.string ⟨y.toArray⟩)) β w r := by
  rcases eqSym_cases h with ⟨rfl, rfl⟩ | ⟨rfl, rfl⟩
  · exact str_ok (by simp only [binStr, hb])
  · exact str_ok (by simp only [binStr, hb])
theorem apart_ok {l : Bool} {a b : Int} (h : apart l a b = true) : (0 < a + b * Env.of l ∧ a + b * Env.of l < 9223372036854775808) ∨ (-9223372036854775808 < a + b * Env.of l ∧ a + b * Env.of l < 0) := by
  simp only [apart, Bool.and_eq_true, Bool.or_eq_true, decide_eq_true_eq] at h
  obtain ⟨rfl, h⟩ := h
  have e : Env.of true = Env.num % 1048576 := rfl
  have h0 : 0 ≤ Env.num % 1048576 := Int.emod_nonneg _ (by omega)
  have h1 : Env.num % 1048576 ≤ 1048576 := by omega
  rw [e]
  generalize Env.num % 1048576 = X at h0 h1
  rcases h with ⟨⟨ha, hb⟩, hc⟩ | ⟨⟨ha, hb⟩, hc⟩
  · have := Int.mul_le_mul_of_nonneg_left h1 hb
    have := Int.mul_nonneg hb h0
    exact .inl ⟨by omega, by omega⟩
  · have h2 : 0 ≤ -b := by omega
    have := Int.mul_le_mul_of_nonneg_left h1 h2
    have := Int.mul_nonneg h2 h0
    rw [Int.neg_mul] at *
    rw [Int.neg_mul] at *
    exact .inr ⟨by omega, by omega⟩
theorem wrap64_mod (x : Int) : IntKind.i64.wrap x % 18446744073709551616 = x % 18446744073709551616 := by rw [IntKind.wrap_i64]; omega
theorem wrap64_eq {x y : Int} (h : x % 18446744073709551616 = y % 18446744073709551616) : IntKind.i64.wrap x = IntKind.i64.wrap y := by rw [IntKind.wrap_i64, IntKind.wrap_i64]; omega
theorem wrap64_add (x y : Int) : IntKind.i64.wrap (IntKind.i64.wrap x + y) = IntKind.i64.wrap (x + y) := wrap64_eq (by have := wrap64_mod x; omega)
theorem wrap64_add' (x y : Int) : IntKind.i64.wrap (x + IntKind.i64.wrap y) = IntKind.i64.wrap (x + y) := wrap64_eq (by have := wrap64_mod y; omega)
theorem wrap64_sub (x y : Int) : IntKind.i64.wrap (IntKind.i64.wrap x - y) = IntKind.i64.wrap (x - y) := wrap64_eq (by have := wrap64_mod x; omega)
theorem wrap64_sub' (x y : Int) : IntKind.i64.wrap (x - IntKind.i64.wrap y) = IntKind.i64.wrap (x - y) := wrap64_eq (by have := wrap64_mod y; omega)
theorem wrap64_mul (x y : Int) : IntKind.i64.wrap (IntKind.i64.wrap x * y) = IntKind.i64.wrap (x * y) := wrap64_eq (by rw [Int.mul_emod, wrap64_mod, ← Int.mul_emod])
theorem low20 (x : Int) : IntKind.i64.wrap ((BitVec.ofInt 64 (IntKind.i64.wrap x) &&& BitVec.ofInt 64 1048575).toNat : Int) = IntKind.i64.wrap (x % 1048576) := by
  have h1 : (BitVec.ofInt 64 (1048575 : Int)).toNat = 2 ^ 20 - 1 := by decide
  have h2 : ((BitVec.ofInt 64 (IntKind.i64.wrap x)).toNat : Int) = x % 18446744073709551616 := by
    rw [BitVec.toNat_ofInt]
    have := wrap64_mod x
    have h := Int.emod_nonneg (IntKind.i64.wrap x) (b := 18446744073709551616) (by omega)
    rw [show (((2 : Nat) ^ 64 : Nat) : Int) = 18446744073709551616 by decide, Int.toNat_of_nonneg h, this]
  rw [BitVec.toNat_and, h1, Nat.and_two_pow_sub_one_eq_mod]
  congr 1
  rw [Int.natCast_emod, h2]
  omega
theorem rng_ok {op : BinOp} {t : TypeId} {k : IntKind} {lo hi z n : Int} {r : AV} (h1 : lo ≤ z) (h2 : z ≤ hi) (h : rngInt op lo hi n = some r) : VG P (binOp op t (.int k z) (.int k n)) β w r := by
  have key : ∀ b, binInt op k z n = some (.bool b) → op ≠ .shl → op ≠ .shr → r = .bool b → VG P (binOp op t (.int k z) (.int k n)) β w r := by
    rintro b e o1 o2 rfl
    exact int_ok o1 o2 e
  cases op <;> simp only [rngInt, reduceCtorEq] at h
  all_goals
    simp only [Bool.cond_eq_ite, Bool.or_eq_true, decide_eq_true_eq] at h
    first
    | (split at h
       · rename_i hc
         cases h
         refine key _ ?_ (by simp) (by simp) rfl
         simp only [binInt, Option.some.injEq, AV.bool.injEq, decide_eq_true_eq, beq_eq_false_iff_ne, bne_iff_ne, ne_eq]
         omega
       · first
         | (cases h; done)
         | (split at h
            · rename_i hc
              cases h
              refine key _ ?_ (by simp) (by simp) rfl
              simp only [binInt, Option.some.injEq, AV.bool.injEq, decide_eq_true_eq, decide_eq_false_iff_not]
              omega
            · cases h))
theorem swap_ok {op op' : BinOp} {t : TypeId} {k : IntKind} {z n : Int} {r : AV} (ho : (op = .eql ∧ op' = .eql) ∨ (op = .neq ∧ op' = .neq) ∨ (op = .lss ∧ op' = .gtr) ∨ (op = .leq ∧ op' = .geq) ∨ (op = .gtr ∧ op' = .lss) ∨ (op = .geq ∧ op' = .leq)) (h : VG P (binOp op' t (.int k z) (.int k n)) β w r) : VG P (binOp op t (.int k n) (.int k z)) β w r := by
  refine VG.to (r := r) ?_ (fun _ h => h)
  obtain ⟨u, hu, hr⟩ := h
  refine ⟨u, ?_, hr⟩
  rw [← hu]
  rcases ho with ⟨rfl, rfl⟩ | ⟨rfl, rfl⟩ | ⟨rfl, rfl⟩ | ⟨rfl, rfl⟩ | ⟨rfl, rfl⟩ | ⟨rfl, rfl⟩ <;> simp only [binOp, ne_eq, not_true_eq_false, if_false, Op.intCmp, Sem.run_pure] <;> congr 2 <;> first | rfl | (rw [Bool.eq_iff_iff]; simp; omega)
theorem symBin_ok {op : BinOp} {t : TypeId} {x y : AV} {u v : Value} {r : AV} (h : symBin op x y = some r) (hx : Rep β x u) (hy : Rep β y v) :
    VG P (binOp op t u v) β w r ∧ u ≠ .nilIface ∧ ∀ xs, u ≠ .agg xs := by
  unfold symBin at h
  split at h
  · rename_i i l b
    obtain ⟨rfl, hl⟩ := hx
    cases hy
    refine ⟨?_, by simp, by simp⟩
    rw [Bool.cond_eq_ite] at h
    split at h
    · rename_i hb
      refine eqSym_str ?_ h
      rw [sameBytes_eq, beq_eq_false_iff_ne]
      exact hl b (amongB_ok hb)
    · cases h
  · rename_i b i l
    obtain ⟨rfl, hl⟩ := hy
    cases hx
    refine ⟨?_, by simp, by simp⟩
    rw [Bool.cond_eq_ite] at h
    split at h
    · rename_i hb
      refine eqSym_str ?_ h
      rw [sameBytes_eq, beq_eq_false_iff_ne]
      exact fun e => hl b (amongB_ok hb) e.symm
    · cases h
  · rename_i i l j l'
    obtain ⟨rfl, hl⟩ := hx
    obtain ⟨rfl, hl'⟩ := hy
    refine ⟨?_, by simp, by simp⟩
    rw [Bool.cond_eq_ite] at h
    split at h
    · rename_i hb
      rw [Nat.beq_eq] at hb
      subst hb
      refine eqSym_str ?_ h
      rw [sameBytes_eq]
      exact beq_self_eq_true _
    · cases h
  · rename_i l a b n
    obtain rfl := hx
    cases hy
    refine ⟨?_, by simp, by simp⟩
    split at h
    · cases h
      refine (int_ok (by simp) (by simp) rfl).to ?_
      rintro _ rfl
      rw [wrapK_eq]
      show Value.int .i64 _ = _
      rw [wrap64_add]
      congr 2
      omega
    · cases h
      refine (int_ok (by simp) (by simp) rfl).to ?_
      rintro _ rfl
      rw [wrapK_eq]
      show Value.int .i64 _ = _
      rw [wrap64_sub]
      congr 2
      omega
    · cases h
      refine (int_ok (by simp) (by simp) rfl).to ?_
      rintro _ rfl
      rw [wrapK_eq]
      show Value.int .i64 _ = _
      rw [wrap64_mul, Int.add_mul, Int.mul_assoc, Int.mul_comm (Env.of l) n, ← Int.mul_assoc]
    · rw [Bool.cond_eq_ite] at h
      split at h
      · rename_i hc
        cases h
        simp only [Bool.and_eq_true, Bool.not_eq_true', decide_eq_true_eq] at hc
        obtain ⟨⟨⟨rfl, rfl⟩, rfl⟩, rfl⟩ := hc
        refine (int_ok (by simp) (by simp) rfl).to ?_
        rintro _ rfl
        show Value.int .i64 _ = Value.int .i64 _
        have e0 : (0 : Int) + 1 * Env.of false = Env.num := by show (0 : Int) + 1 * Env.num = _; omega
        have e1 : (0 : Int) + 1 * Env.of true = Env.num % 1048576 := by show (0 : Int) + 1 * (Env.num % 1048576) = _; omega
        rw [e0, e1]
        exact congrArg _ (low20 _)
      · cases h
    · rw [Bool.cond_eq_ite] at h
      split at h
      · rename_i hc
        rw [Bool.and_eq_true] at hc
        refine eqSym_int ?_ h
        have h1 := apart_ok hc.1
        have h2 : -9223372036854775808 ≤ n ∧ n < 9223372036854775808 := by simpa [inI64] using hc.2
        rw [beq_eq_false_iff_ne, IntKind.wrap_i64]
        generalize b * Env.of l = X at h1 ⊢
        omega
      · cases h
  · rename_i n l a b
    obtain rfl := hy
    cases hx
    refine ⟨?_, by simp, by simp⟩
    split at h
    · cases h
      refine (int_ok (by simp) (by simp) rfl).to ?_
      rintro _ rfl
      rw [wrapK_eq]
      show Value.int .i64 _ = _
      rw [wrap64_add']
      congr 2
      omega
    · cases h
      refine (int_ok (by simp) (by simp) rfl).to ?_
      rintro _ rfl
      rw [wrapK_eq]
      show Value.int .i64 _ = _
      rw [wrap64_sub', Int.sub_mul, Int.zero_mul]
      congr 2
      omega
    · cases h
      refine (int_ok (by simp) (by simp) rfl).to ?_
      rintro _ rfl
      rw [wrapK_eq]
      show Value.int .i64 _ = _
      rw [Int.mul_comm n, wrap64_mul, Int.add_mul, Int.mul_comm a n, Int.mul_assoc, Int.mul_comm (Env.of l) n, ← Int.mul_assoc, Int.mul_comm b n]
    · rw [Bool.cond_eq_ite] at h
      split at h
      · rename_i hc
        rw [Bool.and_eq_true] at hc
        refine eqSym_int ?_ h
        have h1 := apart_ok hc.1
        have h2 : -9223372036854775808 ≤ n ∧ n < 9223372036854775808 := by simpa [inI64] using hc.2
        rw [beq_eq_false_iff_ne, IntKind.wrap_i64]
        generalize b * Env.of l = X at h1 ⊢
        omega
      · cases h
  · rename_i l a b l' a' b'
    obtain rfl := hx
    obtain rfl := hy
    refine ⟨?_, by simp, by simp⟩
    rw [Bool.cond_eq_ite] at h
    split at h
    case isFalse => cases h
    rename_i hl
    obtain rfl := eq_of_beq hl
    split at h
    · cases h
      refine (int_ok (by simp) (by simp) rfl).to ?_
      rintro _ rfl
      rw [wrapK_eq]
      show Value.int .i64 _ = _
      rw [wrap64_add, wrap64_add', Int.add_mul]
      congr 2
      omega
    · cases h
      refine (int_ok (by simp) (by simp) rfl).to ?_
      rintro _ rfl
      rw [wrapK_eq]
      show Value.int .i64 _ = _
      rw [wrap64_sub, wrap64_sub', Int.sub_mul]
      congr 2
      omega
    · rw [Bool.cond_eq_ite] at h
      split at h
      · rename_i hc
        simp only [Bool.and_eq_true, decide_eq_true_eq] at hc
        obtain ⟨rfl, rfl⟩ := hc
        exact eqSym_int (beq_self_eq_true _) h
      · rw [Bool.cond_eq_ite] at h
        split at h
        · rename_i hc
          refine eqSym_int ?_ h
          have h1 := apart_ok hc
          rw [beq_eq_false_iff_ne, IntKind.wrap_i64, IntKind.wrap_i64]
          rw [Int.sub_mul] at h1
          generalize b * Env.of l = X at h1 ⊢
          generalize b' * Env.of l = Y at h1 ⊢
          omega
        · cases h
  · rename_i m r0 n
    obtain ⟨z, rfl, hz⟩ := hx
    cases hy
    refine ⟨?_, by simp, by simp⟩
    split at h
    · rw [Bool.cond_eq_ite] at h
      split at h
      · rename_i hc
        cases h
        simp only [Bool.and_eq_true, Bool.not_eq_true', decide_eq_true_eq, decide_eq_false_iff_not] at hc
        obtain ⟨rfl, hn⟩ := hc
        refine int_ok (by simp) (by simp) ?_
        simp only [binInt, beq_eq_false_iff_ne.2 hn, cond_false, hz]
      · cases h
    · cases h
  · rename_i k lo hi k' n
    obtain ⟨z, rfl, h1, h2⟩ := hx
    cases hy
    refine ⟨?_, by simp, by simp⟩
    rw [Bool.cond_eq_ite] at h
    split at h
    · rename_i hk
      obtain rfl := eq_of_beq hk
      exact rng_ok h1 h2 h
    · cases h
  · rename_i k' n k lo hi
    obtain ⟨z, rfl, h1, h2⟩ := hy
    cases hx
    refine ⟨?_, by simp, by simp⟩
    rw [Bool.cond_eq_ite] at h
    split at h
    · rename_i hk
      obtain rfl := eq_of_beq hk
      unfold intRng at h
      split at h
      · exact swap_ok (.inl ⟨rfl, rfl⟩) (rng_ok h1 h2 h)
      · exact swap_ok (.inr (.inl ⟨rfl, rfl⟩)) (rng_ok h1 h2 h)
      · exact swap_ok (.inr (.inr (.inl ⟨rfl, rfl⟩))) (rng_ok h1 h2 h)
      · exact swap_ok (.inr (.inr (.inr (.inl ⟨rfl, rfl⟩)))) (rng_ok h1 h2 h)
      · exact swap_ok (.inr (.inr (.inr (.inr (.inl ⟨rfl, rfl⟩))))) (rng_ok h1 h2 h)
      · exact swap_ok (.inr (.inr (.inr (.inr (.inr ⟨rfl, rfl⟩))))) (rng_ok h1 h2 h)
      · cases h
    · cases h
  · cases h
theorem rep_kind {x : AV} {u : Value} (hx : Rep β x u) (hns : ∀ s, x ≠ .sym s) : (∀ k n, u = .int k n → x = .int k n) ∧ (∀ s, u = .string s → ∃ l, x = .str l) ∧ (∀ k n, u = .float k n → x = .flt k n) ∧ ∀ k n m, u ≠ .complex k n m := by
  cases x <;> simp only [Rep] at hx <;>
    first
      | (exact absurd rfl (hns _))
      | (obtain rfl := hx; refine ⟨?_, ?_, ?_, ?_⟩ <;> simp)
      | (obtain ⟨_, _, _, rfl⟩ := hx; refine ⟨?_, ?_, ?_, ?_⟩ <;> simp)
      | (obtain ⟨_, _, _, _, rfl, _⟩ := hx; refine ⟨?_, ?_, ?_, ?_⟩ <;> simp)
      | (obtain ⟨_, _, rfl⟩ := hx; refine ⟨?_, ?_, ?_, ?_⟩ <;> simp)
      | (obtain ⟨_, rfl, _⟩ := hx; refine ⟨?_, ?_, ?_, ?_⟩ <;> simp)
theorem binAV_ok {op : BinOp} {t : TypeId} {x y : AV} {p q : Operand} {u v : Value} {r : AV} (h : binAV P op t x y = some r) (hx : Rep β x u) (hy : Rep β y v) :
    VG P (do eqGuard op t p q u v; binOp op t u v) β w r := by
  have join : ∀ {r : AV}, (eqGuard op t p q u v).run P w = .ok () w → VG P (binOp op t u v) β w r → VG P (do eqGuard op t p q u v; binOp op t u v) β w r := by
    rintro r hg ⟨z, hz, hr⟩
    exact ⟨z, by rw [Sem.run_bind, hg]; exact hz, hr⟩
  unfold binAV at h
  split at h
  · obtain ⟨h1, h2, h3⟩ := symBin_ok (t := t) (w := w) (P := P) h hx hy
    exact join (guard_pure (fun g => h2 g.1) (fun xs _ g => absurd g (h3 xs))) h1
  · obtain ⟨h1, h2, h3⟩ := symBin_ok (t := t) (w := w) (P := P) h hx hy
    exact join (guard_pure (fun g => h2 g.1) (fun xs _ g => absurd g (h3 xs))) h1
  · rename_i k a k' b
    cases hx
    cases hy
    refine join (guard_pure (by simp) (by simp)) ?_
    split at h
    · exact shift_ok (.inl rfl) h
    · exact shift_ok (.inr rfl) h
    · rename_i h1 h2
      cases hk : (k == k') with
      | false => rw [hk] at h; cases h
      | true =>
        rw [hk] at h
        obtain rfl := eq_of_beq hk
        exact int_ok h1 h2 h
  · cases hx
    cases hy
    exact join (guard_pure (by simp) (by simp)) (str_ok h)
  · rename_i hns _ _ _
    have hns : ∀ s, x ≠ .sym s := fun s e => hns s e
    split at h
    · split at h
      · rename_i b hb
        cases h
        obtain ⟨e1, e2, e3⟩ := eqAt_ok (w := w) hb hx hy
        obtain ⟨s1, s2, s3⟩ := eqAt_shape hb
        obtain ⟨k1, k2, k3, k4⟩ := rep_kind hx hns
        refine join (guard_pure e2 e3) ⟨.bool b, ?_, rfl⟩
        rw [(binOp_eql (t := t) (fun k n k' m g => s1 _ _ (k1 _ _ g.1)) (fun a b g => by obtain ⟨l, hl⟩ := k2 _ g.1; exact s2 _ hl) (fun k n k' m g => s3 _ _ (k3 _ _ g.1)) (fun k n m k' n' m' g => k4 _ _ _ g.1)).1]
        simp [e1]
      · cases h
    · split at h
      · rename_i b hb
        cases h
        obtain ⟨e1, e2, e3⟩ := eqAt_ok (w := w) hb hx hy
        obtain ⟨s1, s2, s3⟩ := eqAt_shape hb
        obtain ⟨k1, k2, k3, k4⟩ := rep_kind hx hns
        refine join (guard_pure e2 e3) ⟨.bool (!b), ?_, rfl⟩
        rw [(binOp_eql (t := t) (fun k n k' m g => s1 _ _ (k1 _ _ g.1)) (fun a b g => by obtain ⟨l, hl⟩ := k2 _ g.1; exact s2 _ hl) (fun k n k' m g => s3 _ _ (k3 _ _ g.1)) (fun k n m k' n' m' g => k4 _ _ _ g.1)).2]
        simp [e1]
      · cases h
    · cases h
end
end Ev
end Go.Proofs.Ytnajbogmhhlpcaa
namespace Go.Proofs.Ytnajbogmhhlpcaa
open Go.RowKit
namespace Ev
set_option linter.unusedSectionVars false
variable [Env]
section
variable {P : Program} {β : Beta} {w : World} {s : St}
theorem un_ok {op : UnOp} {a v : AV} {u : Value} (h : unAV op a = some v) (hu : Rep β a u) : VG P (Op.unary op u) β w v := by
  unfold unAV at h
  split at h
  · cases h; cases hu
    exact ⟨_, by simp only [Op.unary, Op.intArith, Sem.run_pure]; rfl, by rw [wrapK_eq]; rfl⟩
  · cases h; cases hu
    exact ⟨.bool _, rfl, rfl⟩
  · cases h
theorem conv_ok {src dst : TypeId} {a v : AV} {u : Value} (h : convAV P src dst a = some v) (hu : Rep β a u) : VG P (convert src dst u) β w v := by
  unfold convAV at h
  split at h
  · rename_i i j k n hi hj
    split at h
    · rename_i k' hd
      cases h; cases hu
      have h1 := run_under hi w
      have h2 := run_under hj w
      rw [hd] at h2
      refine ⟨.int k' (k'.wrap n), ?_, by rw [wrapK_eq]; rfl⟩
      unfold convert
      simp only [Sem.run_bind, h1, h2, Result.andThen_ok]
      cases i.d <;> rfl
    · cases h
  · rename_i i j l hi hj
    split at h
    · rename_i hd
      cases h; cases hu
      have h1 := run_under hi w
      have h2 := run_under hj w
      rw [hd] at h2
      refine ⟨.string ⟨l.toArray⟩, ?_, rfl⟩
      unfold convert
      simp only [Sem.run_bind, h1, h2, Result.andThen_ok]
      cases i.d <;> rfl
    · cases h
  · rename_i i j id l hi hj
    split at h
    · rename_i hd
      cases h
      obtain ⟨rfl, hl⟩ := hu
      have h1 := run_under hi w
      have h2 := run_under hj w
      rw [hd] at h2
      refine ⟨.string ⟨(Env.txt id).toArray⟩, ?_, ⟨rfl, hl⟩⟩
      unfold convert
      simp only [Sem.run_bind, h1, h2, Result.andThen_ok]
      cases i.d <;> rfl
    · cases h
  · rename_i i j l a b hi hj
    split at h
    · rename_i hd
      cases h
      obtain rfl := hu
      have h1 := run_under hi w
      have h2 := run_under hj w
      rw [hd] at h2
      refine ⟨.int .i64 (IntKind.i64.wrap (IntKind.i64.wrap (a + b * Env.of l))), ?_, ?_⟩
      · unfold convert
        simp only [Sem.run_bind, h1, h2, Result.andThen_ok]
        cases i.d <;> rfl
      · show Value.int .i64 _ = Value.int .i64 _
        rw [wrap64_eq (wrap64_mod _)]
    · cases h
  · cases h
theorem bytesOf_ok : ∀ {l : List AV} {b : List UInt8} {vs : List Value}, bytesOf l = some b → Reps β l vs → ∃ ns : List Int, vs = ns.map (Value.int .u8) ∧ b = ns.map fun n => UInt8.ofNat n.toNat
  | [], b, vs, h, hv => by cases h; exact ⟨[], hv, rfl⟩
  | .int .u8 (.ofNat n) :: l, b, vs, h, hv => by
    simp only [bytesOf] at h
    split at h
    · rename_i r hr
      cases hc : Nat.blt n 256 with
      | false => rw [hc] at h; cases h
      | true =>
        rw [hc] at h
        cases h
        obtain ⟨u, m, rfl, rfl, hl⟩ := hv
        obtain ⟨ns, rfl, rfl⟩ := bytesOf_ok hr hl
        exact ⟨(n : Int) :: ns, rfl, rfl⟩
    · cases h
theorem foldl_push : ∀ (ns : List Int) (a : ByteArray), ns.foldl (fun r n => r.push (UInt8.ofNat n.toNat)) a = ⟨a.data ++ (ns.map fun n => UInt8.ofNat n.toNat).toArray⟩
  | [], a => by simp
  | n :: ns, a => by
    rw [List.foldl_cons, foldl_push ns]
    simp [ByteArray.push]
theorem conv_bytes_ok {src dst e : TypeId} {i j k : TI} (hi : ti P src = some i) (hj : ti P dst = some j) (hk : ti P e = some k) (hid : i.d = .slice e) (hjd : j.d = .string) (hkd : k.d = .int .u8) {a : Addr} {len cap : Nat} {l : List AV} {b : List UInt8} {vs : List Value}
    (hl : (loadCells a len).run P w = .ok vs.toArray w) (hv : Reps β l vs) (hb : bytesOf l = some b) : VG P (convert src dst (.slice (some a) len cap)) β w (.str b) := by
  obtain ⟨_, _, _, g1, g2, _⟩ := ti_spec hi
  obtain ⟨_, _, _, g3, g4, _⟩ := ti_spec hj
  obtain ⟨_, _, _, g5, g6, _⟩ := ti_spec hk
  obtain ⟨ns, rfl, rfl⟩ := bytesOf_ok hb hv
  refine ⟨_, ?_, rfl⟩
  rw [run_convert_bytes_string w src dst e (some a) len cap (by rw [g2, hid]) (by rw [g6, hkd]) (by rw [g4, hjd]), run_bytesToString w a len cap ns hl, foldl_push]
  simp
/-! Places. -/
theorem field_addr_ok {st : TypeId} {i j : TI} (hi : ti P st = some i) {fs : Array Field} (hd : i.d = .struct fs) {f : Nat} {fd : Field} (hf : fs[f]? = some fd) (hj : ti P fd.type = some j) (hz : (j.size == 0) = false) {b off : Nat} {u : Value} (hu : Rep β (.ptr b off) u) :
    VG P (Instr.fieldAt st u f) β w (.ptr b (off + fd.offset)) := by
  obtain ⟨nb, t, hb, rfl⟩ := hu
  have hun := run_under hi w
  rw [hd] at hun
  have hz' : ¬ j.size = 0 := by simpa using hz
  refine ⟨.pointer (some ⟨nb, off + fd.offset, none⟩), ?_, nb, t, hb, rfl⟩
  simp only [Instr.fieldAt, Sem.run_bind, hun, Result.andThen_ok, hf, Instr.sureAddr, fieldPlace, run_size hj, Sem.run_pure, hz', if_false, addr_add]
theorem field_ok {t : TypeId} {i j : TI} (hi : ti P t = some i) {fs : Array Field} (hd : i.d = .struct fs) {f : Nat} {fd : Field} (hf : fs[f]? = some fd) (hj : ti P fd.type = some j) {cs : List AV} {u : Value} (hu : Rep β (.agg cs) u) {v : AV} (h : partAV j cs fd.offset = some v) :
    VG P (Instr.field t u f) β w v := by
  obtain ⟨vs, rfl, hr⟩ := hu
  obtain ⟨x, hx, hxr⟩ := part_ok hj hr h
  have hun := run_under hi w
  rw [hd] at hun
  refine ⟨x, ?_, hxr⟩
  simp only [Instr.field, Sem.run_bind, hun, Result.andThen_ok, hf, asAgg, Sem.run_pure, hx w]
theorem index_addr_arr_ok {t e : TypeId} {n : Nat} {i j : TI} (hi : ti P t = some i) (hd : i.d = .array n e) (hj : ti P e = some j) {b off : Nat} {u : Value} (hu : Rep β (.ptr b off) u) {kk : IntKind} {k : Int} (h0 : 0 ≤ k) (h1 : k < (n : Int)) :
    VG P (Instr.indexAt t u (.int kk k)) β w (.ptr b (off + k.toNat * j.size)) := by
  obtain ⟨nb, tt, hb, rfl⟩ := hu
  have hun := run_under hi w
  rw [hd] at hun
  refine ⟨.pointer (some ⟨nb, off + k.toNat * j.size, none⟩), ?_, nb, tt, hb, rfl⟩
  simp only [Instr.indexAt, asIntOf, Sem.run_bind, Sem.run_pure, hun, Result.andThen_ok, Instr.sureAddr, Bool.and_true, h0, h1, and_self, if_true, run_size hj, addr_add]
theorem index_addr_slc_ok {t e : TypeId} {i j : TI} (hi : ti P t = some i) (hd : i.d = .slice e) (hj : ti P e = some j) {b off len : Nat} {cap : ACap} {u : Value} (hu : Rep β (.slc b off len cap) u) {kk : IntKind} {k : Int} (h0 : 0 ≤ k) (h1 : k < (len : Int)) :
    VG P (Instr.indexAt t u (.int kk k)) β w (.ptr b (off + k.toNat * j.size)) := by
  obtain ⟨nb, tt, c, hb, rfl, _⟩ := hu
  have hun := run_under hi w
  rw [hd] at hun
  refine ⟨.pointer (some ⟨nb, off + k.toNat * j.size, none⟩), ?_, nb, tt, hb, rfl⟩
  simp only [Instr.indexAt, asIntOf, Sem.run_bind, Sem.run_pure, hun, Result.andThen_ok, h0, h1, and_self, if_true, run_size hj, addr_add]
theorem index_arr_ok {t e : TypeId} {n : Nat} {i j : TI} (hi : ti P t = some i) (hd : i.d = .array n e) (hj : ti P e = some j) {cs : List AV} {u : Value} (hu : Rep β (.agg cs) u) {kk : IntKind} {k : Int} (h0 : 0 ≤ k) (h1 : k < (n : Int)) {v : AV} (h : partAV j cs (k.toNat * j.size) = some v) :
    VG P (Instr.index t u (.int kk k)) β w v := by
  obtain ⟨vs, rfl, hr⟩ := hu
  obtain ⟨x, hx, hxr⟩ := part_ok hj hr h
  have hun := run_under hi w
  rw [hd] at hun
  refine ⟨x, ?_, hxr⟩
  simp only [Instr.index, asIntOf, Sem.run_bind, Sem.run_pure, hun, Result.andThen_ok, h0, h1, and_self, if_true, run_size hj, hx w]
theorem index_str_ok {t : TypeId} {i : TI} (hi : ti P t = some i) (hd : i.d = .string) {bs : List UInt8} {u : Value} (hu : Rep β (.str bs) u) {kk : IntKind} {k : Int} (h0 : 0 ≤ k) {c : UInt8} (h : bs[k.toNat]? = some c) :
    VG P (Instr.index t u (.int kk k)) β w (.int .u8 c.toNat) := by
  cases hu
  have hun := run_under hi w
  rw [hd] at hun
  refine ⟨.int .u8 c.toNat, ?_, rfl⟩
  have hlt : k.toNat < bs.length := (List.getElem?_eq_some_iff.1 h).1
  have hc : (ByteArray.mk bs.toArray)[k.toNat]? = some c := by
    rw [getElem?_pos _ _ (by rw [size_mk]; exact hlt)]
    have : bs[k.toNat] = c := by
      rw [List.getElem?_eq_getElem hlt] at h; exact Option.some.inj h
    rw [← this]; rfl
  simp only [Instr.index, asIntOf, Sem.run_bind, Sem.run_pure, hun, Result.andThen_ok, h0, if_true, hc]
theorem extract_ok {l : List AV} {u : Value} (hu : Rep β (.tup l) u) {k : Nat} {v : AV} (h : l[k]? = some v) : VG P (Instr.extract u k) β w v := by
  obtain ⟨vs, rfl, hr⟩ := hu
  obtain ⟨x, hx, hxr⟩ := hr.at k v h
  have : vs[k]? = some x := by simpa using hx
  exact ⟨x, by simp only [Instr.extract, this, Sem.run_pure], hxr⟩
/-! Slices. -/
def OptRep (β : Beta) : Option AV → Option Value → Prop
  | none, v => v = none
  | some a, v => ∃ u, v = some u ∧ Rep β a u
theorem bound_ok {x : AV} {y n : Nat} (h : bound x y = some n) {u : Value} (hu : Rep β x u) (code : BoundsCode) : (∀ Y w, y ≤ Y → (Instr.sliceBound u Y code).run P w = .ok n w) ∧ n ≤ y := by
  unfold bound at h
  split at h
  · rename_i k i
    cases hu
    cases hc : (decide (0 ≤ i) && decide (i ≤ (y : Int))) with
    | false => rw [hc] at h; cases h
    | true =>
      rw [hc] at h
      cases h
      simp only [Bool.and_eq_true, decide_eq_true_eq] at hc
      refine ⟨fun Y w hy => ?_, by omega⟩
      have : 0 ≤ i ∧ i ≤ (Y : Int) := ⟨hc.1, by omega⟩
      simp only [Instr.sliceBound, asIntOf, Sem.run_bind, Sem.run_pure, Result.andThen_ok, this, and_self, if_true]
  · cases h
theorem boundOr_ok {x : Option AV} {y d n : Nat} (h : boundOr x y d = some n) {u : Option Value} (hu : OptRep β x u) (hd : x = none → d ≤ y) : n ≤ y ∧
    match u with
    | some v => ∀ Y w code, y ≤ Y → (Instr.sliceBound v Y code).run P w = .ok n w
    | none => n = d := by
  cases x with
  | none =>
    cases h
    cases hu
    exact ⟨hd rfl, rfl⟩
  | some a =>
    obtain ⟨v, rfl, hv⟩ := hu
    exact ⟨(bound_ok (P := P) h hv .index).2, fun Y w code hY => (bound_ok h hv code).1 Y w hY⟩
/-- The bounds of a slice expression without a third. -/
theorem bounds2_ok {isS : Bool} {len cap top h l : Nat} {hi lo : Option AV} {uh ul : Option Value} (h1 : boundOr hi top len = some h) (h2 : boundOr lo h 0 = some l) (ht : top ≤ cap) (hlt : hi = none → len ≤ top) (rh : OptRep β hi uh) (rl : OptRep β lo ul) :
    (Instr.sliceBounds isS len cap ul uh none).run P w = .ok (l, h, cap) w ∧ l ≤ h ∧ h ≤ top := by
  obtain ⟨a1, a2⟩ := boundOr_ok (P := P) h1 rh hlt
  obtain ⟨b1, b2⟩ := boundOr_ok (P := P) h2 rl (fun _ => Nat.zero_le _)
  refine ⟨?_, b1, a1⟩
  unfold Instr.sliceBounds
  cases uh with
  | none =>
    obtain rfl : h = len := a2
    cases ul with
    | none => obtain rfl : l = 0 := b2; simp
    | some v => simp [b2 h w .sliceB (Nat.le_refl _)]
  | some x =>
    simp only [Sem.run_bind, Sem.run_pure, Result.andThen_ok, a2 cap w _ ht]
    cases ul with
    | none => obtain rfl : l = 0 := b2; simp
    | some v => simp [b2 h w .sliceB (Nat.le_refl _)]
/-- .. with a third. -/
theorem bounds3_ok {isS : Bool} {len cap top m h l : Nat} {mx hi : AV} {lo : Option AV} {um uh : Value} {ul : Option Value} (h0 : bound mx top = some m) (h1 : bound hi m = some h) (h2 : boundOr lo h 0 = some l) (ht : top ≤ cap) (rm : Rep β mx um) (rh : Rep β hi uh) (rl : OptRep β lo ul) :
    (Instr.sliceBounds isS len cap ul (some uh) (some um)).run P w = .ok (l, h, m) w ∧ l ≤ h ∧ h ≤ m ∧ m ≤ top := by
  have a := bound_ok (P := P) h0 rm
  have b := bound_ok (P := P) h1 rh
  obtain ⟨b1, b2⟩ := boundOr_ok (P := P) h2 rl (fun _ => Nat.zero_le _)
  refine ⟨?_, b1, (b .index).2, (a .index).2⟩
  unfold Instr.sliceBounds
  simp only [Sem.run_bind, (a _).1 cap w ht, (b _).1 m w (Nat.le_refl _), Result.andThen_ok]
  cases ul with
  | none => obtain rfl : l = 0 := b2; simp
  | some v => simp [b2 h w .slice3C (Nat.le_refl _)]
theorem orNone {α : Type} {x : Option α} (h : x.isNone = false) : ∃ a, x = some a := by
  cases x with
  | none => cases h
  | some a => exact ⟨a, rfl⟩
theorem slice_ok {t : TypeId} {x : AV} {lo hi mx : Option AV} {v : AV} {u : Value} {ul uh um : Option Value} (h : sliceAV P t x lo hi mx = some v) (hx : Rep β x u) (rl : OptRep β lo ul) (rh : OptRep β hi uh) (rm : OptRep β mx um) : VG P (Instr.sliceAt t u ul uh um) β w v := by
  unfold sliceAV at h
  split at h
  case h_1 => cases h
  case h_2 i hi' =>
  have hun := run_under hi' w
  split at h
  case h_1 bs hd =>
    -- a text
    cases hx
    rw [hd] at hun
    split at h
    case h_1 => cases h
    case h_2 =>
    cases rm
    split at h
    case h_1 => cases h
    case h_2 hh h1 =>
    split at h
    case h_1 => cases h
    case h_2 ll h2 =>
    cases h
    obtain ⟨b1, b2, b3⟩ := bounds2_ok (P := P) (w := w) (isS := false) (cap := bs.length) h1 h2 (Nat.le_refl _) (fun _ => Nat.le_refl _) rh rl
    refine ⟨.string ((ByteArray.mk bs.toArray).extract ll hh), ?_, ?_⟩
    · simp only [Instr.sliceAt, Sem.run_bind, hun, Result.andThen_ok, Instr.slice, Option.isSome_none, Bool.false_eq_true, if_false, size_mk, b1, Sem.run_pure]
    · simp only [Rep]
      congr 1
      apply ByteArray.ext
      rw [ByteArray.data_extract]
      apply Array.ext'
      simp [List.extract_eq_take_drop]
  case h_2 n e b off hd =>
    -- an array's address
    obtain ⟨nb, tt, hb, rfl⟩ := hx
    rw [hd] at hun
    split at h
    case h_1 => cases h
    case h_2 j hj =>
    split at h
    case h_1 => cases h
    case h_2 m h0 =>
    split at h
    case h_1 => cases h
    case h_2 hh h1 =>
    split at h
    case h_1 => cases h
    case h_2 ll h2 =>
    cases hc : (mx.isSome && hi.isNone) with
    | true => rw [hc] at h; cases h
    | false =>
      rw [hc] at h
      cases h
      have fin : ∀ {mm : Nat}, (Instr.sliceBounds false n n ul uh um).run P w = .ok (ll, hh, mm) w → mm = m → hh - ll ≤ m - ll →
          VG P (Instr.sliceAt t (.pointer (some ⟨nb, off, none⟩)) ul uh um) β w (.slc b (bif m == ll then off else off + ll * j.size) (hh - ll) (.fix (m - ll))) := by
        rintro mm hr rfl hle
        refine ⟨.slice (some ⟨nb, bif mm == ll then off else off + ll * j.size, none⟩) (hh - ll) (mm - ll), ?_, nb, tt, mm - ll, hb, rfl, hle, rfl⟩
        simp only [Instr.sliceAt, Sem.run_bind, hun, Result.andThen_ok, Instr.sureAddr, Sem.run_pure, hr, run_size hj]
        by_cases hml : mm = ll
        · simp [hml]
        · have : (mm == ll) = false := by simpa using hml
          simp only [hml, if_false, this, cond_false, addr_add]
      cases mx with
      | none =>
        cases h0
        cases rm
        obtain ⟨b1, b2, b3⟩ := bounds2_ok (P := P) (w := w) (isS := false) (len := n) (cap := n) h1 h2 (Nat.le_refl _) (fun _ => Nat.le_refl _) rh rl
        exact fin b1 rfl (by omega)
      | some mv =>
        obtain ⟨hv, rfl⟩ := orNone (x := hi) (by simpa using hc)
        obtain ⟨u1, rfl, r1⟩ := rm
        obtain ⟨u2, rfl, r2⟩ := rh
        obtain ⟨b1, b2, b3, b4⟩ := bounds3_ok (P := P) (w := w) (isS := false) (len := n) (cap := n) h0 h1 h2 (Nat.le_refl _) r1 r2 rl
        exact fin b1 rfl (by omega)
  case h_3 e b off len cap hd =>
    -- a slice whose capacity is known
    obtain ⟨nb, tt, c, hb, rfl, hlc, rfl⟩ := hx
    rw [hd] at hun
    split at h
    case h_1 => cases h
    case h_2 j hj =>
    split at h
    case h_1 => cases h
    case h_2 m h0 =>
    split at h
    case h_1 => cases h
    case h_2 hh h1 =>
    split at h
    case h_1 => cases h
    case h_2 ll h2 =>
    cases hc : (mx.isSome && hi.isNone) with
    | true => rw [hc] at h; cases h
    | false =>
      rw [hc] at h
      cases h
      have fin : ∀ {mm : Nat}, (Instr.sliceBounds true len c ul uh um).run P w = .ok (ll, hh, mm) w → mm = m → hh - ll ≤ m - ll →
          VG P (Instr.sliceAt t (.slice (some ⟨nb, off, none⟩) len c) ul uh um) β w (.slc b (bif m == ll then off else off + ll * j.size) (hh - ll) (.fix (m - ll))) := by
        rintro mm hr rfl hle
        refine ⟨.slice (some ⟨nb, bif mm == ll then off else off + ll * j.size, none⟩) (hh - ll) (mm - ll), ?_, nb, tt, mm - ll, hb, rfl, hle, rfl⟩
        simp only [Instr.sliceAt, Instr.slice, Sem.run_bind, hun, Result.andThen_ok, Sem.run_pure, hr, run_size hj]
        by_cases hml : mm = ll
        · simp [hml]
        · have : (mm == ll) = false := by simpa using hml
          simp only [hml, if_false, this, cond_false, Option.map_some, addr_add]
      cases mx with
      | none =>
        cases h0
        cases rm
        obtain ⟨b1, b2, b3⟩ := bounds2_ok (P := P) (w := w) (isS := true) (len := len) (cap := c) h1 h2 (Nat.le_refl _) (fun _ => hlc) rh rl
        exact fin b1 rfl (by omega)
      | some mv =>
        obtain ⟨hv, rfl⟩ := orNone (x := hi) (by simpa using hc)
        obtain ⟨u1, rfl, r1⟩ := rm
        obtain ⟨u2, rfl, r2⟩ := rh
        obtain ⟨b1, b2, b3, b4⟩ := bounds3_ok (P := P) (w := w) (isS := true) (len := len) (cap := c) h0 h1 h2 (Nat.le_refl _) r1 r2 rl
        exact fin b1 rfl (by omega)
  case h_4 e b off len size least hd =>
    -- a slice whose capacity is open
    obtain ⟨nb, tt, c, hb, rfl, hlc, hle, htt, hsz, hcm⟩ := hx
    rw [hd] at hun
    split at h
    case h_1 => cases h
    case h_2 j hj =>
    cases hjs : (j.size == size && Nat.ble len least) with
    | false => rw [hjs] at h; cases h
    | true =>
    rw [hjs] at h
    simp only [Bool.and_eq_true, Nat.ble_eq] at hjs
    obtain ⟨hjs1, hll⟩ := hjs
    obtain rfl := eq_of_beq hjs1
    simp only [cond_true] at h
    have fin : ∀ {ll hh mm : Nat}, (Instr.sliceBounds true len c ul uh um).run P w = .ok (ll, hh, mm) w →
        (Instr.sliceAt t (.slice (some ⟨nb, off, none⟩) len c) ul uh um).run P w = .ok (.slice (some ⟨nb, bif mm == ll then off else off + ll * j.size, none⟩) (hh - ll) (mm - ll)) w := by
      intro ll hh mm hr
      simp only [Instr.sliceAt, Instr.slice, Sem.run_bind, hun, Result.andThen_ok, Sem.run_pure, hr, run_size hj]
      by_cases hml : mm = ll
      · simp [hml]
      · have : (mm == ll) = false := by simpa using hml
        simp only [hml, if_false, this, cond_false, Option.map_some, addr_add]
    split at h
    case h_1 mv =>
      split at h
      case h_1 => cases h
      case h_2 m h0 =>
      split at h
      case h_1 => cases h
      case h_2 hh h1 =>
      split at h
      case h_1 => cases h
      case h_2 ll h2 =>
      cases hhn : hi.isNone with
      | true => rw [hhn] at h; cases h
      | false =>
        rw [hhn] at h
        cases h
        obtain ⟨hv, rfl⟩ := orNone hhn
        obtain ⟨u1, rfl, r1⟩ := rm
        obtain ⟨u2, rfl, r2⟩ := rh
        obtain ⟨b1, b2, b3, b4⟩ := bounds3_ok (P := P) (w := w) (isS := true) (len := len) (cap := c) h0 h1 h2 hle r1 r2 rl
        exact ⟨_, fin b1, nb, tt, m - ll, hb, rfl, by omega, rfl⟩
    case h_2 =>
      cases rm
      split at h
      case h_1 => cases h
      case h_2 hh h1 =>
      split at h
      case h_1 => cases h
      case h_2 ll h2 =>
      obtain ⟨b1, b2, b3⟩ := bounds2_ok (P := P) (w := w) (isS := true) (len := len) (cap := c) h1 h2 hle (fun _ => hll) rh rl
      cases h0 : (ll == 0) with
      | true =>
        rw [h0] at h
        cases h
        obtain rfl := eq_of_beq h0
        refine ⟨_, fin b1, nb, tt, c, hb, ?_, by omega, hle, htt, hsz, hcm⟩
        cases hz : (c == 0) <;> simp
      | false =>
        rw [h0] at h
        simp only [cond_false] at h
        cases hlt : Nat.blt ll least with
        | true =>
          rw [hlt] at h
          cases h
          have hlt' : ll + 1 ≤ least := by simpa [Nat.blt, Nat.ble_eq] using hlt
          have hne : (c == ll) = false := by simp; omega
          refine ⟨_, fin b1, nb, tt, c - ll, hb, by rw [hne]; rfl, by omega, by omega, ?_, hsz, by omega⟩
          rw [← htt, Nat.add_assoc, ← Nat.add_mul, show ll + (c - ll) = c by omega]
        | false =>
          rw [hlt] at h
          cases h
          have : hh - ll = 0 := by
            have : ¬ (ll + 1 ≤ least) := by intro g; rw [blt_of (by omega : ll < least)] at hlt; cases hlt
            omega
          refine ⟨_, fin b1, ?_⟩
          rw [this]
          exact ⟨_, _, rfl⟩
  case h_5 e hd =>
    -- an empty slice, somewhere
    obtain ⟨a, c, rfl⟩ := hx
    rw [hd] at hun
    split at h
    case h_1 => cases h
    case h_2 j hj =>
    split at h
    case h_1 => cases h
    case h_2 =>
    cases rm
    split at h
    case h_1 => cases h
    case h_2 hh h1 =>
    split at h
    case h_1 => cases h
    case h_2 ll h2 =>
    cases h
    obtain ⟨b1, b2, b3⟩ := bounds2_ok (P := P) (w := w) (isS := true) (len := 0) (cap := c) h1 h2 (Nat.zero_le _) (fun _ => Nat.le_refl _) rh rl
    obtain rfl : hh = 0 := by omega
    obtain rfl : ll = 0 := by omega
    refine ⟨.slice (some (if c = 0 then a else a.add 0)) 0 c, ?_, ⟨_, _, rfl⟩⟩
    simp only [Instr.sliceAt, Instr.slice, Sem.run_bind, hun, Result.andThen_ok, Sem.run_pure, b1, run_size hj, Nat.zero_mul, Option.map_some, Nat.sub_zero]
    by_cases hc : c = 0 <;> simp [hc]
  case h_6 e hd =>
    cases hx
    rw [hd] at hun
    split at h
    case h_1 => cases h
    case h_2 j hj =>
    split at h
    case h_1 => cases h
    case h_2 m h0 =>
    split at h
    case h_1 => cases h
    case h_2 hh h1 =>
    split at h
    case h_1 => cases h
    case h_2 ll h2 =>
    cases hc : (mx.isSome && hi.isNone) with
    | true => rw [hc] at h; cases h
    | false =>
      rw [hc] at h
      cases h
      have fin : (Instr.sliceBounds true 0 0 ul uh um).run P w = .ok (0, 0, 0) w → VG P (Instr.sliceAt t (.slice none 0 0) ul uh um) β w .nils := by
        intro hr
        refine ⟨.slice none 0 0, ?_, rfl⟩
        simp only [Instr.sliceAt, Instr.slice, Sem.run_bind, hun, Result.andThen_ok, Sem.run_pure, hr, run_size hj]
        simp
      cases mx with
      | none =>
        cases h0
        cases rm
        obtain ⟨b1, b2, b3⟩ := bounds2_ok (P := P) (w := w) (isS := true) (len := 0) (cap := 0) h1 h2 (Nat.le_refl _) (fun _ => Nat.le_refl _) rh rl
        obtain rfl : hh = 0 := by omega
        obtain rfl : ll = 0 := by omega
        exact fin b1
      | some mv =>
        obtain ⟨hv, rfl⟩ := orNone (x := hi) (by simpa using hc)
        obtain ⟨u1, rfl, r1⟩ := rm
        obtain ⟨u2, rfl, r2⟩ := rh
        obtain ⟨b1, b2, b3, b4⟩ := bounds3_ok (P := P) (w := w) (isS := true) (len := 0) (cap := 0) h0 h1 h2 (Nat.le_refl _) r1 r2 rl
        obtain rfl : m = 0 := by omega
        obtain rfl : hh = 0 := by omega
        obtain rfl : ll = 0 := by omega
        exact fin b1
  case h_7 => cases h
end
end Ev
end Go.Proofs.Ytnajbogmhhlpcaa
