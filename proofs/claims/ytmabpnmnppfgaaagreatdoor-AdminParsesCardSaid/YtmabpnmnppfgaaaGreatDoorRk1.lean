/- Part Rk1 of the proof: the statement that is proved stands in the text that ends with its name. No conditions beyond the card's. -/
import Derived.Control
import Derived.Scope
import Derived.CallsIn
import Derived.Laws.Rows
import Derived.Laws.Strings
import Derived.Laws.Entries
import Derived.Laws.Cells
import Derived.Laws.StructEq
import Derived.Laws.MakeOwn
import Derived.Laws.BytesArg
import Derived.Laws.Append
namespace Go.Proofs.YtmabpnmnppfgaaaGreatDoor.Rk
open Go
set_option linter.unusedVariables false
inductive AV where
  | top
  | bool (b : Bool)
  | int (k : IntKind) (n : Int)
  | str (l : List Nat)
  | ptr (b off : Nat)
  | nilp
  | slice (b off len mc es : Nat)
  | nils
  | map (b : Nat)
  | nilm
  | func (f : FuncId) (first cap : List AV)
  | nilf
  | iface (t : TypeId) (v : AV)
  | nili
  | agg (cs : List AV)
  | tuple (vs : List AV)
  | yield (b : Nat)
  | any (b : Nat)
deriving Inhabited
inductive Tr (α : Type) where
  | leaf
  | node (l : Tr α) (v : Option α) (r : Tr α)
namespace Tr
variable {α : Type}
def get : Tr α → Nat → Option α
  | leaf, _ => none
  | node l v r, k => if k = 0 then v else if k % 2 = 1 then l.get (k / 2) else r.get (k / 2 - 1)
def setF : Nat → Tr α → Nat → α → Tr α
  | 0, t, _, _ => t
  | f + 1, leaf, k, v => if k = 0 then node leaf (some v) leaf else if k % 2 = 1 then node (setF f leaf (k / 2) v) none leaf else node leaf none (setF f leaf (k / 2 - 1) v)
  | f + 1, node l u r, k, v => if k = 0 then node l (some v) r else if k % 2 = 1 then node (setF f l (k / 2) v) u r else node l u (setF f r (k / 2 - 1) v)
def set (t : Tr α) (k : Nat) (v : α) : Tr α := setF (k.log2 + 2) t k v
end Tr
structure ME where
  k : AV
  v : AV
  born : Nat
inductive ABlk where
  | cells (t : TypeId) (cs : List AV)
  | map (es : List ME) (clock : Nat)
  | miter (m : Option Nat) (since : Nat) (seen : List Nat) (last : Nat)
  | siter (l : List Nat) (pos : Nat)
  | pmap (es : List ME)
  | defd
  | loop (ready : Bool) (pending : Option Code) (sz : Nat) (tmps : Tr AV) (params : List Tmp) (assign body : Code) (d : Nat)
  | dead
inductive LE where
  | rd (b i n : Nat)
  | wr (b i n : Nat)
  | all (b : Nat)
def LE.blk : LE → Nat
  | .rd b _ _ | .wr b _ _ | .all b => b
structure St where
  heap : Tr ABlk
  n : Nat
  log : List LE
def bytesOf (s : ByteArray) : List Nat := s.data.toList.map UInt8.toNat
def ofV : Nat → Value → AV
  | _, .bool b => .bool b
  | _, .int k n => .int k n
  | _, .string s => .str (bytesOf s)
  | _, .pointer none => .nilp
  | _, .slice none 0 0 => .nils
  | _, .map none => .nilm
  | _, .nilFunc => .nilf
  | _, .nilIface => .nili
  | n + 1, .agg cs => .agg (cs.toList.map (ofV n))
  | n + 1, .tuple cs => .tuple (cs.toList.map (ofV n))
  | _, _ => .top
def cellsA : AV → Option (List AV)
  | .top => none
  | .agg cs => some cs
  | v => some [v]
def one : AV → Bool
  | .top | .agg _ | .tuple _ => false
  | _ => true
inductive DE where
  | fn (f : FuncId) (args : List AV)
  | mark (b : Nat)
structure AAct where
  sz : Nat
  tmps : Tr AV
  defs : List DE
def AAct.get (a : AAct) (t : Nat) : AV := (a.tmps.get t).getD (.tuple [])
def aeval (a : AAct) : Operand → AV
  | .tmp t => a.get t
  | .const v => ofV 3 v
  | .global _ => .top
  | .func f => .func f [] []
def AAct.putT (a : AAct) (d : Tmp) (v : AV) : AAct := if d < a.sz then { a with tmps := a.tmps.set d v } else a
def AAct.put (a : AAct) (d : Option Tmp) (v : AV) : AAct :=
  match d with
  | some d => a.putT d v
  | none => a
section
variable (P : Program)
def szOf (t : TypeId) : Option Nat := (P.info? t).map (·.size)
def aggD : TypeDesc → Bool
  | .struct _ | .array _ _ => true
  | _ => false
def aggT (t : TypeId) : Option Bool := (P.underlying t).map aggD
def zeroA (t : TypeId) : Option AV := ((P.info? t).bind (·.zero)).map (ofV 3)
def zeroC (t : TypeId) : Option (List AV) := (zeroA P t).bind cellsA
def takeN : Nat → List AV → Option (List AV)
  | 0, _ => some []
  | n + 1, x :: l => match takeN n l with
    | some r => some (x :: r)
    | none => none
  | _ + 1, [] => none
def cutL (cs : List AV) (off n : Nat) : Option (List AV) := takeN n (cs.drop off)
def setL : List AV → Nat → List AV → Option (List AV)
  | cs, _, [] => some cs
  | [], _, _ :: _ => none
  | _ :: cs, 0, v :: vs => match setL cs 0 vs with
    | some r => some (v :: r)
    | none => none
  | c :: cs, i + 1, v :: vs => match setL cs i (v :: vs) with
    | some r => some (c :: r)
    | none => none
def St.note (s : St) (e : LE) : St := { s with log := e :: s.log }
def St.put (s : St) (b : Nat) (x : ABlk) : St := { s with heap := s.heap.set b x }
def St.new (s : St) (x : ABlk) : St := { s with heap := s.heap.set s.n x, n := s.n + 1 }
def rdCells (s : St) (b off n : Nat) : Option (List AV × St) :=
  match s.heap.get b with
  | some (.cells _ cs) => match cutL cs off n with
    | some l => some (l, s.note (.rd b off n))
    | none => none
  | _ => none
def wrCells (s : St) (b off : Nat) (vs : List AV) : Option St :=
  match s.heap.get b with
  | some (.cells t cs) => if vs.all one && !vs.isEmpty then match setL cs off vs with
    | some cs' => some ((s.put b (.cells t cs')).note (.wr b off vs.length))
    | none => none else none
  | _ => none
def eqT (d : TypeDesc) (known : Bool) (x y : AV) : Option Bool := match d, x, y with
  | .pointer _, .nilp, .nilp => some true
  | .pointer _, .nilp, .ptr _ _ => some false
  | .pointer _, .ptr _ _, .nilp => some false
  | .interface _, .nili, .nili => if known then some true else none
  | .interface _, .nili, .iface _ _ => some false
  | .interface _, .iface _ _, .nili => some false
  | .map _ _, .nilm, .nilm => some true
  | .map _ _, .nilm, .map _ => some false
  | .map _ _, .map _, .nilm => some false
  | .func _ _ _, .nilf, .nilf => some true
  | .func _ _ _, .nilf, .func _ _ _ => some false
  | .func _ _ _, .func _ _ _, .nilf => some false
  | .slice _, .nils, .nils => some true
  | .slice _, .nils, .slice _ _ _ _ _ => some false
  | .slice _, .slice _ _ _ _ _, .nils => some false
  | .bool, .bool a, .bool b => some (a == b)
  | _, _, _ => none
def strLt : List Nat → List Nat → Bool
  | _, [] => false
  | [], _ :: _ => true
  | a :: x, b :: y => decide (a < b) || (decide (a = b) && strLt x y)
def iop (op : BinOp) (k : IntKind) (x y : Int) : Option AV :=
  match op with
  | .add => some (.int k (k.wrap (x + y)))
  | .sub => some (.int k (k.wrap (x - y)))
  | .mul => some (.int k (k.wrap (x * y)))
  | .quo => if y = 0 then none else some (.int k (k.wrap (x.tdiv y)))
  | .rem => if y = 0 then none else some (.int k (x.tmod y))
  | .and => some (.int k (k.wrap (BitVec.ofInt k.bits x &&& BitVec.ofInt k.bits y).toNat))
  | .or => some (.int k (k.wrap (BitVec.ofInt k.bits x ||| BitVec.ofInt k.bits y).toNat))
  | .xor => some (.int k (k.wrap (BitVec.ofInt k.bits x ^^^ BitVec.ofInt k.bits y).toNat))
  | .andNot => some (.int k (k.wrap (BitVec.ofInt k.bits x &&& ~~~BitVec.ofInt k.bits y).toNat))
  | .eql => some (.bool (x == y))
  | .neq => some (.bool (x != y))
  | .lss => some (.bool (decide (x < y)))
  | .leq => some (.bool (decide (x ≤ y)))
  | .gtr => some (.bool (decide (x > y)))
  | .geq => some (.bool (decide (x ≥ y)))
  | .shl => if y < 0 then none else some (.int k (k.wrap (x * 2 ^ (min y.toNat k.bits))))
  | .shr => if y < 0 then none else some (.int k (x.fdiv (2 ^ (min y.toNat k.bits))))
def sop (op : BinOp) (x y : List Nat) : Option AV :=
  match op with
  | .add => if x.length + y.length < 1000000 then some (.str (x ++ y)) else none
  | .eql => some (.bool (decide (x = y)))
  | .neq => some (.bool (!decide (x = y)))
  | .lss => some (.bool (strLt x y))
  | .leq => some (.bool (strLt x y || decide (x = y)))
  | .gtr => some (.bool !(strLt x y || decide (x = y)))
  | .geq => some (.bool !strLt x y)
  | _ => none
def isShift : BinOp → Bool
  | .shl | .shr => true
  | _ => false
def cellEq (a b : AV) : Option Bool := match a, b with
  | .str a, .str b => some (decide (a = b))
  | .int k a, .int j b => if k = j then some (a == b) else none
  | .bool a, .bool b => some (a == b)
  | _, _ => none
def cellsEq : List AV → List AV → Option Bool
  | [], [] => some true
  | a :: l, b :: m => match cellEq a b with
    | some true => cellsEq l m
    | r => r
  | _, _ => none
def keyEq (a b : AV) : Option Bool := match a, b with
  | .agg a, .agg b => cellsEq a b
  | a, b => cellEq a b
def cellOk : TypeDesc → AV → Bool
  | .string, .str _ => true
  | .int _, .int _ _ => true
  | .bool, .bool _ => true
  | _, _ => false
def cellsOk : List Field → List AV → Nat → Bool
  | [], [], _ => true
  | f :: fs, c :: cs, i => f.name != "_" && decide (f.offset = i) && (match P.underlying f.type with | some d => cellOk d c | none => false) && cellsOk fs cs (i + 1)
  | _, _, _ => false
def keyOk (t : TypeId) (d : TypeDesc) (k : AV) : Bool := match d, k with
  | .struct fs, .agg cs => !P.stoodInHeld t && cellsOk P fs.toList cs 0
  | .array 1 e, .agg [c] => decide (szOf P e = some 1) && (match P.underlying e with | some d => cellOk d c | none => false)
  | d, k => cellOk d k
def partA (t : TypeId) (cs : List AV) (off : Nat) : Option AV :=
  match aggT P t, szOf P t with
  | some true, some n => match cutL cs off n with
    | some l => some (.agg l)
    | none => none
  | some false, _ => cs[off]?
  | _, _ => none
def eqFs (E : TypeId → AV → AV → Option Bool) : List Field → List AV → List AV → Option Bool
  | [], _, _ => some true
  | f :: fs, cs, ds => if f.name != "_" then (match partA P f.type cs f.offset, partA P f.type ds f.offset with
    | some a, some b => (match E f.type a b with
      | some true => eqFs E fs cs ds
      | r => r)
    | _, _ => none) else none
def eqD : Nat → TypeId → AV → AV → Option Bool
  | 0, _, _, _ => none
  | d + 1, t, x, y => match P.underlying t, x, y with
    | some (.struct fs), .agg cs, .agg ds => if P.stoodInHeld t then none else eqFs P (eqD d) fs.toList cs ds
    | some td, x, y => if cellOk td x then cellEq x y else none
    | none, _, _ => none
def eqS (t : TypeId) (d : TypeDesc) (x y : AV) : Option Bool := match d, x, y with
  | .struct _, .agg _, .agg _ => if !P.eqGuardType P.depth t then eqD P 5 t x y else none
  | _, _, _ => none
def bop (t : TypeId) (op : BinOp) (d : Option TypeDesc) (known : Bool) (x y : AV) : Option AV :=
  match x, y with
  | .int k a, .int j b => if k = j || isShift op then iop op k a b else none
  | .str a, .str b => sop op a b
  | .any a, .any b => if a = b then (match op with | .eql => some (.bool true) | .neq => some (.bool false) | _ => none) else none
  | x, y => match op, d with
    | .eql, some d => match eqT d known x y with
      | some b => some (.bool b)
      | none => match eqS P t d x y with
        | some b => some (.bool b)
        | none => none
    | .neq, some d => match eqT d known x y with
      | some b => some (.bool !b)
      | none => match eqS P t d x y with
        | some b => some (.bool !b)
        | none => none
    | _, _ => none
def isConst : Operand → Bool
  | .const _ => true
  | _ => false
def uop (op : UnOp) (x : AV) : Option AV :=
  match op, x with
  | .neg, .int k n => some (.int k (k.wrap (0 - n)))
  | .xor, .int k n => some (.int k (k.wrap (BitVec.ofInt k.bits (if k.signed then -1 else k.max) ^^^ BitVec.ofInt k.bits n).toNat))
  | .not, .bool b => some (.bool !b)
  | _, _ => none
def byteAt : List AV → Option (List Nat)
  | [] => some []
  | .int .u8 (.ofNat n) :: l => match byteAt l with
    | some r => some (n % 256 :: r)
    | none => none
  | _ => none
def bytesA (l : List Nat) : List AV := l.map fun n => .int .u8 (Int.ofNat n)
def conv (src dst : TypeId) (x : AV) (s : St) : Option (AV × St) :=
  match P.underlying dst, x with
  | some (.int k), .int _ n => some (.int k (k.wrap n), s)
  | some .string, .str l => some (.str l, s)
  | some .string, .nils =>
    match P.underlying src with
    | some (.slice e) => match P.underlying e with
      | some (.int .u8) => some (.str [], s)
      | _ => none
    | _ => none
  | some .string, .slice b off len _ _ =>
    match P.underlying src with
    | some (.slice e) => match P.underlying e with
      | some (.int .u8) => match rdCells s b off len with
        | some (cs, s) => match byteAt cs with
          | some l => some (.str l, s)
          | none => none
        | none => none
      | _ => none
    | _ => none
  | some (.slice e), .str l => match P.underlying e, szOf P e with
    | some (.int .u8), some 1 => if l.length < 1000000 then some (.slice s.n 0 l.length l.length 1, s.new (.cells (2 * e) (bytesA l))) else none
    | _, _ => none
  | _, _ => none
def fillA (place : Nat → Option (Nat × Nat)) : List AV → List (Nat × AV) → Option (List AV)
  | cells, [] => some cells
  | cells, (i, v) :: rest =>
    match place i with
    | some (off, size) => match cellsA v with
      | some c => if c.length = size ∧ 0 < size then match setL cells off c with
        | some c => fillA place c rest
        | none => none else none
      | none => none
    | none => none
def repL (z : List AV) : Nat → List AV
  | 0 => []
  | n + 1 => z ++ repL z n
def bnd (x : Option AV) (d : Nat) : Option Nat := match x with
  | none => some d
  | some (.int _ (.ofNat n)) => some n
  | _ => none
def findK (k : AV) : List ME → Nat → Option (Option (Nat × AV))
  | [], _ => some none
  | e :: l, i => match keyEq k e.k with
    | some true => some (some (i, e.v))
    | some false => findK k l (i + 1)
    | none => none
def newA (e : TypeId) (sz : Nat) (y : AV) (s : St) : Option (Nat × List AV × St) := match y with
  | .nils => some (0, [], s)
  | .str l => if sz = 1 then some (l.length, bytesA l, s) else none
  | .slice b off len _ es => if es = sz then match rdCells s b off (len * sz) with
    | some (cs, s) => some (len, cs, s)
    | none => none else none
  | _ => none
def zOk (e : TypeId) (n : Nat) : Bool := match zeroC P e with
  | some z => decide (z.length = n)
  | none => false
def bAppend (t : TypeId) (x y : AV) (s : St) : Option (AV × St) :=
  match P.underlying t with
  | some (.slice e) => match P.info? e with
    | some i => match newA e i.size y s with
      | none => none
      | some (n, cs, s) =>
        if cs.all one && decide (i.bytes ≤ 100000) && decide (0 < i.size) && decide (n < 1000000) && zOk P e i.size then
        match x with
        | .nils => if n = 0 then some (x, s) else some (.slice s.n 0 n n i.size, s.new (.cells (2 * e) cs))
        | .slice b off len mc es =>
          if n = 0 then some (x, s) else
          match s.heap.get b with
          | some (.cells t cs0) =>
            if t = 2 * e ∧ es = i.size ∧ len < 1000000 then
            if len + n ≤ mc then
              match setL (cs0 ++ repL [.top] (off + (len + n) * i.size - cs0.length)) (off + len * i.size) cs with
              | some cs1 => some (.slice b off (len + n) mc es, (s.put b (.cells t cs1)).note (.all b))
              | none => none
            else if off + len * i.size = cs0.length then
              some (.slice s.n 0 (len + n) (len + n) es, ((s.put b .dead).note (.all b)).new (.cells t (cs0.drop off ++ cs)))
            else none
            else if t = 2 * e + 1 ∧ es = i.size ∧ len < 1000000 ∧ 0 < len ∧ cs0.length < off + (len + n) * i.size then
              match rdCells s b off (len * i.size) with
              | some (os, s) => some (.slice s.n 0 (len + n) (len + n) es, s.new (.cells (2 * e) (os ++ cs)))
              | none => none
            else none
          | _ => none
        | _ => none
        else none
    | none => none
  | _ => none
def minA (x y : AV) : Option AV := match x, y with
  | .int k a, .int _ b => some (.int k (if b < a then b else a))
  | _, _ => none
def maxA (x y : AV) : Option AV := match x, y with
  | .int k a, .int _ b => some (.int k (if b > a then b else a))
  | _, _ => none
def foldA (f : AV → AV → Option AV) : AV → List AV → Option AV
  | x, [] => some x
  | x, y :: l => match f x y with
    | some z => foldA f z l
    | none => none
def lenA (d : Option TypeDesc) (x : AV) (s : St) : Option (AV × St) := match d, x with
  | some .string, .str l => some (.int .i64 l.length, s)
  | some (.slice _), .nils => some (.int .i64 0, s)
  | some (.slice _), .slice _ _ n _ _ => some (.int .i64 n, s)
  | some (.map _ _), .nilm => some (.int .i64 0, s)
  | some (.map _ _), .map b => match s.heap.get b with
    | some (.map es _) => some (.int .i64 es.length, s.note (.rd b 0 1))
    | _ => none
  | some (.array n _), _ => some (.int .i64 n, s)
  | some (.pointer t), _ => match P.underlying t with
    | some (.array n _) => some (.int .i64 n, s)
    | _ => none
  | _, _ => none
def sliceDataA : List AV → Option AV
  | [.nils] => some .nilp
  | [.slice b off len _ _] => if 0 < len then some (.ptr b off) else none
  | _ => none
def stringA (t : TypeId) (args : List AV) (s : St) : Option (AV × St) := match args with
  | [.nilp, .int .i64 n] => if n = 0 then some (.str [], s) else none
  | [.ptr b off, .int .i64 (.ofNat n)] => match P.underlying t, s.heap.get b with
    | some (.pointer e), some (.cells t0 _) => if t0 / 2 = e ∧ P.cellsOf e = 1 ∧ 0 < n ∧ n < 1000000 then
        match rdCells s b off n with
        | some (cs, s1) => match byteAt cs with
          | some l => some (.str l, (s1.put b .dead).note (.all b))
          | none => none
        | none => none
      else none
    | _, _ => none
  | _ => none
def undefA : AV := .tuple []
def unit : Option St → Option (AV × St)
  | some s => some (undefA, s)
  | none => none
def opDelete (t : TypeId) (m k : AV) (s : St) : Option St := match P.underlying t, m with
  | some (.map kt _), .map b => match P.underlying kt, s.heap.get b with
    | some d, some (.map es clock) => if keyOk P kt d k then match findK k es 0 with
      | some (some (i, _)) => some ((s.put b (.map (es.eraseIdx i) clock)).note (.all b))
      | some none => some ((s.put b (.map es clock)).note (.all b))
      | none => none else none
    | _, _ => none
  | _, _ => none
def opClear (t : TypeId) (x : AV) (s : St) : Option St := match P.underlying t, x with
  | some (.slice _), .nils => some s
  | some (.slice e), .slice b off len _ es => match szOf P e, zeroC P e with
    | some n, some z => if n = es ∧ z.length = n ∧ 0 < n then (if len = 0 then some s else wrCells s b off (repL z len)) else none
    | _, _ => none
  | _, _ => none
def aBuiltin (b : Builtin) (ts : Array TypeId) (args : List AV) (s : St) : Option (AV × St) :=
  match b with
  | .len => match args with
    | [x] => lenA P ((ts[0]?).bind P.underlying) x s
    | _ => none
  | .append => match ts[0]?, args, ((ts[1]?).bind P.underlying) with
    | some t, [x, y], some (.slice _) => bAppend P t x y s
    | some t, [x, y], some .string => bAppend P t x y s
    | _, _, _ => none
  | .min => match args with
    | x :: l => match foldA minA x l with
      | some v => some (v, s)
      | none => none
    | [] => none
  | .max => match args with
    | x :: l => match foldA maxA x l with
      | some v => some (v, s)
      | none => none
    | [] => none
  | .unsafeSliceData => match sliceDataA args with
    | some v => some (v, s)
    | none => none
  | .unsafeString => match ts.toList with
    | [t, _] => stringA P t args s
    | _ => none
  | .delete => match ts[0]?, args with
    | some t, [m, k] => unit (opDelete P t m k s)
    | _, _ => none
  | .clear => match ts[0]?, args with
    | some t, [x] => unit (opClear P t x s)
    | _, _ => none
  | _ => none
def parts (a : AAct) (ps : Array (Nat × Operand)) : List (Nat × AV) := ps.toList.map fun p => (p.1, aeval a p.2)
def opBuild (t : TypeId) (ps : List (Nat × AV)) : Option AV := match zeroC P t, P.underlying t with
  | some z, some (.struct fs) => match fs.toList.mapM (fun f => (P.info? f.type).map fun i => (f.offset, i.size)) with
    | some places => match fillA (fun i => places[i]?) z ps with
      | some cs => some (.agg cs)
      | none => none
    | none => none
  | some z, some (.array _ e) => match P.info? e with
    | some i => match fillA (fun k => some (k * i.size, i.size)) z ps with
      | some cs => some (.agg cs)
      | none => none
    | none => none
  | _, _ => none
def opBuildSlice (t : TypeId) (len : Nat) (ps : List (Nat × AV)) (s : St) : Option (AV × St) := match P.underlying t with
  | some (.slice e) => match szOf P e, zeroC P e with
    | some n, some z => if len * n ≤ 2 ^ 24 ∧ 0 < n ∧ z.length = n then match fillA (fun i => some (i * n, n)) (repL z len) ps with
      | some cs => some (.slice s.n 0 len len n, s.new (.cells (2 * e) cs))
      | none => none else none
    | _, _ => none
  | _ => none
def opLoad (t : TypeId) (x : AV) (s : St) : Option (AV × St) := match x, aggT P t, szOf P t with
  | .ptr b off, some true, some n => match rdCells s b off n with
    | some (cs, s) => some (.agg cs, s)
    | none => none
  | .ptr b off, some false, _ => match rdCells s b off 1 with
    | some ([v], s) => some (v, s)
    | _ => none
  | _, _, _ => none
def opStore (t : TypeId) (x y : AV) (s : St) : Option St := match x, cellsA y, szOf P t with
  | .ptr b off, some cs, some n => if cs.length = n then (if n = 0 then some s else wrCells s b off cs) else none
  | _, _, _ => none
def opMakeSlice (t : TypeId) (l c : AV) (s : St) : Option (AV × St) := match P.underlying t, l, c with
  | some (.slice e), .int _ (.ofNat l), .int _ (.ofNat c) => match P.info? e, zeroC P e with
    | some i, some z => if l ≤ c ∧ c < 1000000 ∧ i.bytes ≤ 100000 ∧ 0 < i.size ∧ z.length = i.size then some (.slice s.n 0 l c i.size, s.new (.cells (2 * e) (repL z l))) else none
    | _, _ => none
  | _, _, _ => none
def bnds (lo hi : Option AV) (len cap : Nat) : Option (Nat × Nat) := match bnd hi len with
  | some h => match bnd lo 0 with
    | some k => if k ≤ h ∧ h ≤ cap then some (k, h) else none
    | none => none
  | none => none
def opSlice (t : TypeId) (x : AV) (lo hi mx : Option AV) : Option AV := match mx with
  | some _ => none
  | none => match x, P.underlying t with
    | .str l, some .string => match bnds lo hi l.length l.length with
      | some (k, h) => some (.str ((l.take h).drop k))
      | none => none
    | .nils, some (.slice e) => match bnds lo hi 0 0, szOf P e with
      | some _, some _ => some .nils
      | _, _ => none
    | .slice b off len mc es, some (.slice e) => match bnds lo hi len mc, szOf P e with
      | some (k, h), some n => if n = es then some (.slice b (off + k * n) (h - k) (mc - k) es) else none
      | _, _ => none
    | _, _ => none
def opSliceArr (t : TypeId) (b off : Nat) (lo hi mx : Option AV) (s : St) : Option (AV × St) := match mx with
  | some _ => none
  | none => match P.underlying t with
    | some (.array len e) => match bnds lo hi len len, szOf P e, s.heap.get b with
      | some (k, h), some n, some (.cells _ cs) => if off + len * n ≤ cs.length then some (.slice b (off + k * n) (h - k) (len - k) n, s.note (.rd b off 1)) else none
      | _, _, _ => none
    | _ => none
def opFieldAddr (t : TypeId) (x : AV) (f : Nat) : Option AV := match P.underlying t, x with
  | some (.struct fs), .ptr b off => match fs[f]? with
    | some fd => match szOf P fd.type with
      | some (_ + 1) => some (.ptr b (off + fd.offset))
      | _ => none
    | none => none
  | _, _ => none
def opField (t : TypeId) (x : AV) (f : Nat) : Option AV := match P.underlying t, x with
  | some (.struct fs), .agg cs => match fs[f]? with
    | some fd => partA P fd.type cs fd.offset
    | none => none
  | _, _ => none
def opIndexAddr (t : TypeId) (x i : AV) : Option AV := match P.underlying t, x, i with
  | some (.array len e), .ptr b off, .int _ (.ofNat i) => match szOf P e with
    | some n => if i < len then some (.ptr b (off + i * n)) else none
    | none => none
  | some (.slice e), .slice b off len _ _, .int _ (.ofNat i) => match szOf P e with
    | some n => if i < len then some (.ptr b (off + i * n)) else none
    | none => none
  | _, _, _ => none
def opIndex (t : TypeId) (x i : AV) : Option AV := match P.underlying t, x, i with
  | some .string, .str l, .int _ (.ofNat i) => match l[i]? with
    | some n => some (.int .u8 (Int.ofNat n))
    | none => none
  | some (.array len e), .agg cs, .int _ (.ofNat i) => match szOf P e with
    | some n => if i < len then partA P e cs (i * n) else none
    | none => none
  | _, _, _ => none
def mapA (x : AV) (s : St) : Option (List ME × St) := match x with
  | .nilm => some ([], s)
  | .map b => match s.heap.get b with
    | some (.map es _) => some (es, s.note (.rd b 0 1))
    | _ => none
  | _ => none
def pmapOf (x : AV) (s : St) : Option (Nat × List ME) := match x with
  | .map b => match s.heap.get b with
    | some (.pmap es) => some (b, es)
    | _ => none
  | _ => none
def lookP (k : AV) (es : List ME) : Option (Option AV) := if es.all (fun e => (keyEq k e.k).isSome) then match es.filter (fun e => keyEq k e.k == some true) with
    | [] => some none
    | [e] => some (some e.v)
    | _ => none else none
def opLookupP (t : TypeId) (b : Nat) (es : List ME) (i : AV) (ok : Bool) (s : St) : Option (AV × St) := match P.underlying t with
  | some (.map k e) => match P.underlying k with
    | some d => if keyOk P k d i then match lookP i es with
      | some (some v) => some (if ok then .tuple [v, .bool true] else v, s.note (.rd b 0 1))
      | some none => match zeroA P e with
        | some z => some (if ok then .tuple [z, .bool false] else z, s.note (.rd b 0 1))
        | none => none
      | none => none else none
    | _ => none
  | _ => none
def opLookup (t : TypeId) (x i : AV) (ok : Bool) (s : St) : Option (AV × St) := match P.underlying t with
  | some (.map k e) => match P.underlying k, mapA x s with
    | some d, some (es, s) => if keyOk P k d i then match findK i es 0 with
      | some (some (_, v)) => some (if ok then .tuple [v, .bool true] else v, s)
      | some none => match zeroA P e with
        | some z => some (if ok then .tuple [z, .bool false] else z, s)
        | none => none
      | none => none else none
    | _, _ => none
  | _ => none
def opUpdate (t : TypeId) (m k x : AV) (s : St) : Option St := match P.underlying t, m with
  | some (.map kt _), .map b => match P.underlying kt, s.heap.get b with
    | some d, some (.map es clock) => if keyOk P kt d k then match findK k es 0 with
      | some (some (i, _)) => some ((s.put b (.map (es.modify i fun e => { e with v := x }) clock)).note (.all b))
      | some none => some ((s.put b (.map (es ++ [⟨k, x, clock⟩]) (clock + 1))).note (.all b))
      | none => none else none
    | _, _ => none
  | _, _ => none
def opRange (t : TypeId) (x : AV) (s : St) : Option (AV × St) := match P.underlying t, x with
  | some .string, .str l => some (.ptr s.n 0, s.new (.siter l 0))
  | some (.map _ _), .nilm => some (.ptr s.n 0, s.new (.miter none 0 [] 0))
  | some (.map _ _), .map m => match s.heap.get m with
    | some (.map _ clock) => some (.ptr s.n 0, (s.note (.rd m 0 1)).new (.miter (some m) clock [] clock))
    | _ => none
  | _, _ => none
def opNext (it : AV) (s : St) : Option (AV × St) := match it with
  | .ptr b 0 => match s.heap.get b with
    | some (.miter none _ _ _) => some (.tuple [.bool false], s.note (.all b))
    | some (.miter (some m) since seen last) => match s.heap.get m with
      | some (.map es clock) =>
        if seen.isEmpty || es.isEmpty || es.any (fun e => decide (e.born < last)) then
        match es.filter (fun e => !seen.contains e.born) with
        | [] => some (.tuple [.bool false], (s.note (.all b)).note (.rd m 0 1))
        | [e] => if e.born < since then some (.tuple [.bool true, e.k, e.v], ((s.put b (.miter (some m) since (seen ++ [e.born]) clock)).note (.all b)).note (.rd m 0 1)) else none
        | _ => none
        else none
      | _ => none
    | _ => none
  | _ => none
def opNextS (it : AV) (s : St) : Option (AV × St) := match it with
  | .ptr b 0 => match s.heap.get b with
    | some (.siter l pos) => match l[pos]? with
      | none => some (.tuple [.bool false], s.note (.all b))
      | some c => if c < 128 then some (.tuple [.bool true, .int .i64 (Int.ofNat pos), .int .i32 (Int.ofNat c)], (s.put b (.siter l (pos + 1))).note (.all b)) else none
    | _ => none
  | _ => none
def opEntry (it : AV) (s : St) : Option (AV × St) := match it with
  | .ptr b 0 => match s.heap.get b with
    | some (.miter (some m) _ seen last) => match s.heap.get m, seen.getLast? with
      | some (.map es clock), some stamp => if clock = last then match es.find? (fun e => e.born == stamp) with
        | some e => some (.tuple [e.k, e.v], (s.note (.rd b 0 1)).note (.rd m 0 1))
        | none => none
        else none
      | _, _ => none
    | _ => none
  | _ => none
def opAssert (x : AV) (t : TypeId) (ok : Bool) : Option AV := match P.underlying t, x with
  | some (.interface _), _ => none
  | some _, .nili => if ok then match zeroA P t with
    | some z => some (.tuple [z, .bool false])
    | none => none else none
  | some _, .iface u v => if u = t then some (if ok then .tuple [v, .bool true] else v) else if ok then match zeroA P t with
    | some z => some (.tuple [z, .bool false])
    | none => none else none
  | _, _ => none
def val (s : St) : Option AV → Option (AV × St)
  | some v => some (v, s)
  | none => none
def aop (a : AAct) (o : Op) (s : St) : Option (AV × St) :=
  match o with
  | .move x | .assign x => some (aeval a x, s)
  | .pick c x y => match aeval a c with
    | .bool b => some (if b then aeval a x else aeval a y, s)
    | _ => none
  | .alloc t => match zeroC P t with
    | some z => some (.ptr s.n 0, s.new (.cells (2 * t + 1) z))
    | none => none
  | .box t x => match cellsA (aeval a x) with
    | some c => some (.ptr s.n 0, s.new (.cells (2 * t + 1) c))
    | none => none
  | .build t ps => val s (opBuild P t (parts a ps))
  | .buildSlice t len ps => opBuildSlice P t len (parts a ps) s
  | .load t x => opLoad P t (aeval a x) s
  | .store t x y => unit (opStore P t (aeval a x) (aeval a y) s)
  | .nilCheck x => match aeval a x with
    | .ptr b off => some (.ptr b off, s)
    | .func f k l => some (.func f k l, s)
    | .iface t v => some (.iface t v, s)
    | _ => none
  | .binOp op t x y _ => val s (bop P t op (P.underlying t) (isConst x || isConst y) (aeval a x) (aeval a y))
  | .unOp op _ x => val s (uop op (aeval a x))
  | .convert src dst x => if (P.underlying src).isSome then conv P src dst (aeval a x) s else none
  | .makeInterface t x => match P.underlying t with
    | some (.interface _) => none
    | some _ => some (.iface t (aeval a x), s)
    | none => none
  | .makeFunc (.func f) first captured => some (.func f (first.toList.map (aeval a)) (captured.toList.map (aeval a)), s)
  | .makeMap _ none => some (.map s.n, s.new (.map [] 0))
  | .makeSlice t l c => opMakeSlice P t (aeval a l) (aeval a c) s
  | .slice t x lo hi mx => match aeval a x with
    | .ptr b off => opSliceArr P t b off (lo.map (aeval a)) (hi.map (aeval a)) (mx.map (aeval a)) s
    | v => val s (opSlice P t v (lo.map (aeval a)) (hi.map (aeval a)) (mx.map (aeval a)))
  | .fieldAddr t x f => val s (opFieldAddr P t (aeval a x) f)
  | .field t x f => val s (opField P t (aeval a x) f)
  | .indexAddr t x i => val s (opIndexAddr P t (aeval a x) (aeval a i))
  | .index t x i => val s (opIndex P t (aeval a x) (aeval a i))
  | .lookup t x i ok => match pmapOf (aeval a x) s with
    | some (b, es) => opLookupP P t b es (aeval a i) ok s
    | none => opLookup P t (aeval a x) (aeval a i) ok s
  | .mapUpdate t m k x | .insert t m k x => unit (opUpdate P t (aeval a m) (aeval a k) (aeval a x) s)
  | .range t x => opRange P t (aeval a x) s
  | .next it false => opNext (aeval a it) s
  | .next it true => opNextS (aeval a it) s
  | .entry it => opEntry (aeval a it) s
  | .typeAssert x _ t ok => val s (opAssert P (aeval a x) t ok)
  | .extract t i => match aeval a t with
    | .tuple vs => val s vs[i]?
    | _ => none
  | .call { callee := .builtin b, args, argTypes } => aBuiltin P b argTypes (args.toList.map (aeval a)) s
  | _ => none
end
inductive Res where
  | ret (v : AV)
  | pan (v : AV)
inductive AExit where
  | normal
  | exit (id : Nat)
  | goto (l : Nat)
  | ret
  | panic (v : AV)
abbrev Callee := FuncId → List AV → St → Option (Res × St)
abbrev Yielder := Nat → List AV → St → Option (Res × St)
section
variable (P : Program) (C : Callee) (Y : Yielder) (R : Bool)
def wantedA (ops : List Oper) (o : Oper) (a : AAct) : Option Bool := match o.guard with
  | none => some true
  | some (j, b) => match (ops[j]?).bind (·.dst) with
    | none => some false
    | some d => match a.get d with
      | .bool c => some (c == b)
      | .top => none
      | _ => some false
inductive OR where
  | ok (a : AAct) (s : St)
  | pan (a : AAct) (v : AV) (s : St)
  | no
def resOf (a : AAct) (dst : Option Tmp) : Option (Res × St) → OR
  | some (.ret v, s) => .ok (a.put dst v) s
  | some (.pan v, s) => .pan a v s
  | none => .no
def oneVal (a : AAct) (o : Oper) (s : St) : Option (Res × St) :=
  match o.op with
  | .call { callee := .value g, args, .. } => match aeval a g with
    | .func f first cap => C f (first ++ args.toList.map (aeval a) ++ cap) s
    | .yield b => Y b (args.toList.map (aeval a)) s
    | _ => none
  | .panic x => match aeval a x with
    | .iface t v => some (.pan (.iface t v), s)
    | _ => none
  | .defer _ => none
  | op => match aop P a op s with
    | some (v, s) => some (.ret v, s)
    | none => none
def oneOp (a : AAct) (o : Oper) (s : St) : OR :=
  match o.op with
  | .defer { callee := .value g, args, .. } => match aeval a g with
    | .func f first cap => if R then .no else .ok ({ a with defs := .fn f (first ++ args.toList.map (aeval a) ++ cap) :: a.defs }.put o.dst undefA) s
    | _ => .no
  | _ => resOf a o.dst (oneVal P C Y a o s)
def runOps (ops : List Oper) : List Oper → AAct → St → OR
  | [], a, s => .ok a s
  | o :: rest, a, s => match wantedA ops o a with
    | some true => match oneOp P C Y R a o s with
      | .ok a s => runOps ops rest a s
      | r => r
    | some false => runOps ops rest (a.put o.dst undefA) s
    | none => .no
def LE.hits : LE → LE → Bool
  | .rd _ _ _, .rd _ _ _ => false
  | .rd b i n, .wr c j m => b == c && decide (i < j + m) && decide (j < i + n)
  | .wr b i n, .rd c j m => b == c && decide (i < j + m) && decide (j < i + n)
  | .wr b i n, .wr c j m => b == c && decide (i < j + m) && decide (j < i + n)
  | e, f => e.blk == f.blk
structure Rec where
  log : List LE
  lo : Nat
  hi : Nat
def LE.made (r : Rec) (e : LE) : Bool := decide (r.lo ≤ e.blk) && decide (e.blk < r.hi)
def LE.writes : LE → Bool
  | .rd _ _ _ => false
  | _ => true
def Rec.clash (x y : Rec) : Bool := x.log.any (fun e => y.log.any (fun f => e.hits f)) || y.log.any (·.made x) || (x.log.any (·.writes) && y.log.any (·.writes))
def waitsA (ops : List Oper) : List Nat :=
  ops.foldl (init := []) fun acc o => acc ++ [o.after.toList.foldl (fun s e => if Region.binds .any e then s ||| 2 ^ e.on ||| acc.getD e.on 0 else s) 0]
def opTmps (ops : List Oper) (o : Oper) : List Tmp := (o.op.operands.toList.filterMap fun | .tmp t => some t | _ => none) ++ (match o.guard with | some (j, _) => ((ops[j]?).bind (·.dst)).toList | none => [])
def wfOps (ops : List Oper) (sz : Nat) (ws : List Nat) : Bool :=
  ops.zipIdx.all fun (o, k) => decide (ws.getD k 0 < 2 ^ k) && (opTmps ops o).all (fun t => ops.zipIdx.all fun (p, j) => p.dst != some t || (ws.getD k 0).testBit j || (ws.getD j 0).testBit k) &&
    (match o.dst with | none => true | some d => decide (d < sz) && ops.zipIdx.all fun (p, j) => j == k || p.dst != some d)
def clashes (w : Nat) (r : Rec) : List Rec → Nat → Bool
  | [], _ => false
  | x :: l, j => (!w.testBit j && x.clash r) || clashes w r l (j + 1)
def drawOps (ops : List Oper) : List Oper → List Nat → List Rec → AAct → St → OR
  | [], _, _, a, s => .ok a s
  | o :: rest, w :: ws, rs, a, s => match wantedA ops o a with
    | some true => match oneVal P C Y a o { s with log := [] } with
      | some (.ret v, s') => if clashes w ⟨s'.log, s.n, s'.n⟩ rs 0 then .no else drawOps ops rest ws (rs ++ [⟨s'.log, s.n, s'.n⟩]) (a.put o.dst v) { s' with log := s'.log ++ s.log }
      | _ => .no
    | some false => drawOps ops rest ws (rs ++ [⟨[], s.n, s.n⟩]) (a.put o.dst undefA) s
    | none => .no
  | _, _, _, _, _ => .no
def regOps (ops : List Oper) (draw : Bool) (a : AAct) (s : St) : OR :=
  if draw then (if wfOps ops a.sz (waitsA ops) then drawOps P C Y ops ops (waitsA ops) [] a s else .no) else runOps P C Y R ops ops a s
def orExit : OR → Option (AExit × AAct × St)
  | .ok a s => some (.normal, a, s)
  | .pan a v s => some (.panic v, a, s)
  | .no => none
def setPs : List Tmp → List AV → AAct → AAct
  | p :: ps, v :: vs, a => setPs ps vs (a.putT p v)
  | _, _, a => a
def roundEnd : AExit → Option (Bool × Option Code)
  | .normal => some (true, none)
  | .exit id => some (false, some (.exit id))
  | .goto l => some (false, some (.goto l))
  | .ret => some (false, some .ret)
  | .panic _ => none
def roundY (E : Code → AAct → St → Option (AExit × AAct × St)) : Yielder := fun b args s =>
  match s.heap.get b with
  | some (.loop true none sz tmps ps assign body d) =>
    if args.length = ps.length then
      match E assign (setPs ps args ⟨sz, tmps, []⟩) s with
      | some (.normal, a, s) =>
        match s.heap.get b with
        | some (.loop true none sz ts ps asg bd d) =>
          match E body a ((s.put b (.loop false none sz ts ps asg bd d)).note (.all b)) with
          | some (e, _, s) =>
            match s.heap.get b, roundEnd e with
            | some (.loop _ _ sz tmps ps assign body d), some (r, j) => some (.ret (.bool r), (s.put b (.loop r j sz tmps ps assign body d)).note (.all b))
            | _, _ => none
          | none => none
        | _ => none
      | _ => none
    else none
  | _ => none
mutual
def ev : Nat → Bool → Code → AAct → St → Option (AExit × AAct × St)
  | 0, _, _, _, _ => none
  | f + 1, R, c, a, s => match c with
    | .skip | .label _ => some (.normal, a, s)
    | .region _ ops draw => orExit (regOps P C (roundY (ev f true)) R ops.toList draw a s)
    | .seq x y => match ev f R x a s with
      | some (.normal, a, s) => ev f R y a s
      | r => r
    | .cond c x y => match aeval a c with
      | .bool true => ev f R x a s
      | .bool false => ev f R y a s
      | _ => none
    | .block id c => match ev f R c a s with
      | some (.exit j, a, s) => some (if j = id then .normal else .exit j, a, s)
      | r => r
    | .loop c => match ev f R c a s with
      | some (.normal, a, s) => ev f R (.loop c) a s
      | r => r
    | .exit id => some (.exit id, a, s)
    | .goto l => some (.goto l, a, s)
    | .ret => some (.ret, a, s)
    | .scope c => match ev f R c a s with
      | some (.goto l, a, s) => jump f R c l a s
      | r => r
    | .rangeFunc g ps assign body => if R then none else match aeval a g with
      | .func gf first cap =>
        match C gf (first ++ .yield (s.n + 1) :: cap) ((s.new .defd).new (.loop true none a.sz a.tmps ps.toList assign body s.n)) with
        | some (.ret _, s') => match s'.heap.get (s.n + 1) with
          | some (.loop r none ..) => if r then some (.normal, { a with defs := .mark s.n :: a.defs }, (s'.put (s.n + 1) .dead).note (.all (s.n + 1))) else none
          | some (.loop _ (some c) ..) => ev f R c { a with defs := .mark s.n :: a.defs } ((s'.put (s.n + 1) .dead).note (.all (s.n + 1)))
          | _ => none
        | _ => none
      | _ => none
    | _ => none
def jump : Nat → Bool → Code → Nat → AAct → St → Option (AExit × AAct × St)
  | 0, _, _, _, _, _ => none
  | f + 1, R, c, l, a, s => match findLabel c l with
    | some rest => match ev f R rest a s with
      | some (.goto l, a, s) => jump f R c l a s
      | r => r
    | none => none
end
end
abbrev DCallee := FuncId → List AV → Option AV → St → Option (Option AV × St)
section
variable (P : Program)
def resA (a : AAct) : List ResultVar → St → Option (List AV × St)
  | [], s => some ([], s)
  | .tmp t :: l, s => match resA a l s with
    | some (vs, s) => some (a.get t :: vs, s)
    | none => none
  | .cell x t :: l, s => match opLoad P t (a.get x) s with
    | some (v, s) => match resA a l s with
      | some (vs, s) => some (v :: vs, s)
      | none => none
    | none => none
def tupA : List AV → AV
  | [v] => v
  | vs => .tuple vs
def initT : List AV → Nat → AAct → AAct
  | [], _, a => a
  | v :: l, i, a => initT l (i + 1) (a.putT i v)
def keepL (n : Nat) (old : List LE) : List LE → List LE
  | [] => old
  | e :: l => if e.blk < n then e :: keepL n old l else keepL n old l
def runDefs (D : DCallee) : List DE → Option AV → St → Option (Option AV × St)
  | [], p, s => some (p, s)
  | .mark b :: l, p, s => match s.heap.get b with
    | some .defd => runDefs D l p ((s.put b .dead).note (.all b))
    | _ => none
  | .fn f args :: l, p, s => match D f args p s with
    | some (p, s) => runDefs D l p s
    | none => none
def endOf : AExit → Option (Option AV)
  | .normal | .ret => some none
  | .panic v => some (some v)
  | _ => none
def body (C : Callee) (D : DCallee) (fuel : Nat) (f : FuncId) (args : List AV) (s : St) : Option (Res × St) :=
  match P.funcs[f]? with
  | some fn => match fn.body with
    | some c => if args.length ≤ fn.ntmps then match ev P C fuel false c (initT args 0 ⟨fn.ntmps, .leaf, []⟩) { s with log := [] } with
      | some (e, a, s1) => match endOf e with
        | some p => match runDefs D a.defs p s1 with
          | some (none, s2) => match resA P a fn.results.toList s2 with
            | some (vs, s3) => some (.ret (tupA vs), { s3 with log := keepL s.n s.log s3.log })
            | none => none
          | some (some v, s2) => some (.pan v, { s2 with log := keepL s.n s.log s2.log })
          | none => none
        | none => none
      | none => none else none
    | none => none
  | none => none
abbrev Told := FuncId → Option (List AV → St → Option (AV × St))
def call (O : Told) (D : DCallee) (fuel : Nat) : Nat → Callee
  | 0, _, _, _ => none
  | d + 1, f, args, s => match O f with
    | some g => match g args s with
      | some (v, s) => some (.ret v, s)
      | none => body P (call O D fuel d) D fuel f args s
    | none => body P (call O D fuel d) D fuel f args s
end
end Go.Proofs.YtmabpnmnppfgaaaGreatDoor.Rk
namespace Go.Proofs.YtmabpnmnppfgaaaGreatDoor.Rk
open Go
set_option linter.unusedVariables false
theorem Tr.get_leaf {α : Type} (k : Nat) : (Tr.leaf : Tr α).get k = none := rfl
theorem Tr.get_node {α : Type} (l r : Tr α) (v : Option α) (k : Nat) : (Tr.node l v r).get k = if k = 0 then v else if k % 2 = 1 then l.get (k / 2) else r.get (k / 2 - 1) := rfl
theorem Tr.get_setF {α : Type} (v : α) : ∀ (f : Nat) (t : Tr α) (k j : Nat), k + 1 < 2 ^ f → (Tr.setF f t k v).get j = if j = k then some v else t.get j
  | 0, t, k, j, h => by simp at h
  | f + 1, t, k, j, h => by
    rw [Nat.pow_succ] at h
    have ho : k % 2 = 1 → k ≠ 0 → k / 2 + 1 < 2 ^ f := by omega
    have he : k % 2 ≠ 1 → k ≠ 0 → k / 2 - 1 + 1 < 2 ^ f := by omega
    cases t with
    | leaf =>
      unfold Tr.setF
      by_cases h0 : k = 0
      · subst h0
        simp only [if_true, Tr.get_node, Tr.get_leaf]
        by_cases hj : j = 0
        · simp [hj]
        · simp [hj]
      · by_cases h1 : k % 2 = 1
        · simp only [if_neg h0, if_pos h1, Tr.get_node, Tr.get_leaf]
          rw [Tr.get_setF v f _ _ _ (ho h1 h0)]
          by_cases hj0 : j = 0
          · subst hj0; simp [Ne.symm h0]
          · by_cases hj1 : j % 2 = 1
            · simp only [if_neg hj0, if_pos hj1, Tr.get_leaf]
              by_cases hjk : j = k
              · subst hjk; simp
              · rw [if_neg hjk, if_neg (by omega)]
            · simp only [if_neg hj0, if_neg hj1]
              rw [if_neg (by intro e; subst e; exact hj1 h1)]
        · simp only [if_neg h0, if_neg h1, Tr.get_node, Tr.get_leaf]
          rw [Tr.get_setF v f _ _ _ (he h1 h0)]
          by_cases hj0 : j = 0
          · subst hj0; simp [Ne.symm h0]
          · by_cases hj1 : j % 2 = 1
            · simp only [if_neg hj0, if_pos hj1]
              rw [if_neg (by intro e; subst e; exact h1 hj1)]
            · simp only [if_neg hj0, if_neg hj1, Tr.get_leaf]
              by_cases hjk : j = k
              · subst hjk; simp
              · rw [if_neg hjk, if_neg (by omega)]
    | node l u r =>
      unfold Tr.setF
      by_cases h0 : k = 0
      · subst h0
        simp only [if_true, Tr.get_node]
        by_cases hj : j = 0
        · simp [hj]
        · simp [hj]
      · by_cases h1 : k % 2 = 1
        · simp only [if_neg h0, if_pos h1, Tr.get_node]
          rw [Tr.get_setF v f _ _ _ (ho h1 h0)]
          by_cases hj0 : j = 0
          · subst hj0; simp [Ne.symm h0]
          · by_cases hj1 : j % 2 = 1
            · simp only [if_neg hj0, if_pos hj1]
              by_cases hjk : j = k
              · subst hjk; simp
              · rw [if_neg hjk, if_neg (by omega)]
            · simp only [if_neg hj0, if_neg hj1]
              rw [if_neg (by intro e; subst e; exact hj1 h1)]
        · simp only [if_neg h0, if_neg h1, Tr.get_node]
          rw [Tr.get_setF v f _ _ _ (he h1 h0)]
          by_cases hj0 : j = 0
          · subst hj0; simp [Ne.symm h0]
          · by_cases hj1 : j % 2 = 1
            · simp only [if_neg hj0, if_pos hj1]
              rw [if_neg (by intro e; subst e; exact h1 hj1)]
            · simp only [if_neg hj0, if_neg hj1]
              by_cases hjk : j = k
              · subst hjk; simp
              · rw [if_neg hjk, if_neg (by omega)]
theorem Tr.get_set {α : Type} (v : α) (t : Tr α) (k j : Nat) : (t.set k v).get j = if j = k then some v else t.get j := by
  refine Tr.get_setF v _ t k j ?_
  have h := Nat.lt_log2_self (n := k)
  rw [Nat.pow_succ]
  omega
structure RB where
  blk : Nat
  base : Nat
  n : Nat
abbrev Env := Nat → Option RB
def RB.at (r : RB) (off : Nat) : Addr := ⟨r.blk, r.base + off, none⟩
mutual
inductive VR (ρ : Env) : AV → Value → Prop
  | top (v : Value) : VR ρ .top v
  | bool (b : Bool) : VR ρ (.bool b) (.bool b)
  | int (k : IntKind) (n : Int) : VR ρ (.int k n) (.int k n)
  | str (l : List Nat) (h : ∀ x ∈ l, x < 256) : VR ρ (.str l) (.string ⟨(l.map UInt8.ofNat).toArray⟩)
  | ptr (b off : Nat) (r : RB) (h : ρ b = some r) : VR ρ (.ptr b off) (.pointer (some (r.at off)))
  | nilp : VR ρ .nilp (.pointer none)
  | slice (b off len mc es : Nat) (r : RB) (ad : Addr) (cap : Nat) (h : ρ b = some r) (h1 : len ≤ mc) (h2 : mc ≤ cap) (h3 : cap = 0 ∨ ad = r.at off ∧ off + cap * es ≤ r.n) : VR ρ (.slice b off len mc es) (.slice (some ad) len cap)
  | nils : VR ρ .nils (.slice none 0 0)
  | map (b : Nat) (r : RB) (h : ρ b = some r) : VR ρ (.map b) (.map (some r.blk))
  | nilm : VR ρ .nilm (.map none)
  | func (f : FuncId) (k l : List AV) (k' l' : Array Value) (h1 : VRL ρ k k'.toList) (h2 : VRL ρ l l'.toList) : VR ρ (.func f k l) (.func (.func f) k' l')
  | nilf : VR ρ .nilf .nilFunc
  | iface (t : TypeId) (a : AV) (v : Value) (h : VR ρ a v) : VR ρ (.iface t a) (.iface t v)
  | nili : VR ρ .nili .nilIface
  | agg (cs : List AV) (cs' : Array Value) (h : VRL ρ cs cs'.toList) : VR ρ (.agg cs) (.agg cs')
  | tuple (cs : List AV) (cs' : Array Value) (h : VRL ρ cs cs'.toList) : VR ρ (.tuple cs) (.tuple cs')
  | yield (b : Nat) (r : RB) (h : ρ b = some r) : VR ρ (.yield b) (.func (.yield r.blk) #[] #[])
  | any (b : Nat) (r : RB) (h : ρ b = some r) : VR ρ (.any b) (.int .i64 (r.n : Int))
inductive VRL (ρ : Env) : List AV → List Value → Prop
  | nil : VRL ρ [] []
  | cons (a : AV) (v : Value) (l : List AV) (vs : List Value) (h : VR ρ a v) (t : VRL ρ l vs) : VRL ρ (a :: l) (v :: vs)
end
def Env.le (ρ ρ' : Env) : Prop := ∀ b r, ρ b = some r → ρ' b = some r
theorem Env.le_refl (ρ : Env) : ρ.le ρ := fun _ _ h => h
theorem Env.le_trans {ρ ρ' ρ'' : Env} (h : ρ.le ρ') (k : ρ'.le ρ'') : ρ.le ρ'' := fun b r hb => k b r (h b r hb)
mutual
theorem VR.mono {ρ ρ' : Env} (hr : ρ.le ρ') : ∀ {a : AV} {v : Value}, VR ρ a v → VR ρ' a v
  | _, _, .top v => .top v
  | _, _, .bool b => .bool b
  | _, _, .int k n => .int k n
  | _, _, .str l h => .str l h
  | _, _, .ptr b off r h => .ptr b off r (hr b r h)
  | _, _, .nilp => .nilp
  | _, _, .slice b off len mc es r ad cap h h1 h2 h3 => .slice b off len mc es r ad cap (hr b r h) h1 h2 h3
  | _, _, .nils => .nils
  | _, _, .map b r h => .map b r (hr b r h)
  | _, _, .nilm => .nilm
  | _, _, .func f k l k' l' h1 h2 => .func f k l k' l' (VRL.mono hr h1) (VRL.mono hr h2)
  | _, _, .nilf => .nilf
  | _, _, .iface t a v h => .iface t a v (VR.mono hr h)
  | _, _, .nili => .nili
  | _, _, .agg cs cs' h => .agg cs cs' (VRL.mono hr h)
  | _, _, .tuple cs cs' h => .tuple cs cs' (VRL.mono hr h)
  | _, _, .yield b r h => .yield b r (hr b r h)
  | _, _, .any b r h => .any b r (hr b r h)
theorem VRL.mono {ρ ρ' : Env} (hr : ρ.le ρ') : ∀ {l : List AV} {vs : List Value}, VRL ρ l vs → VRL ρ' l vs
  | _, _, .nil => .nil
  | _, _, .cons a v l vs h t => .cons a v l vs (VR.mono hr h) (VRL.mono hr t)
end
section
variable {ρ : Env}
theorem VRL.length : ∀ {l : List AV} {vs : List Value}, VRL ρ l vs → vs.length = l.length
  | _, _, .nil => rfl
  | _, _, .cons a v l vs h t => by simp [VRL.length t]
theorem VRL.get : ∀ {l : List AV} {vs : List Value} (i : Nat) {a : AV}, VRL ρ l vs → l[i]? = some a → ∃ v, vs[i]? = some v ∧ VR ρ a v
  | _, _, i, _, .nil, h => by simp at h
  | _, _, 0, _, .cons a v l vs hv t, h => by simp at h; subst h; exact ⟨v, rfl, hv⟩
  | _, _, i + 1, _, .cons a v l vs hv t, h => by simp at h; simpa using VRL.get i t h
theorem VRL.of_get : ∀ {l : List AV} {vs : List Value}, vs.length = l.length → (∀ (i : Nat) (a : AV) (v : Value), l[i]? = some a → vs[i]? = some v → VR ρ a v) → VRL ρ l vs
  | [], [], _, _ => .nil
  | a :: l, v :: vs, hl, h => .cons a v l vs (h 0 a v rfl rfl) (VRL.of_get (by simpa using hl) (fun i a v h1 h2 => h (i + 1) a v (by simpa using h1) (by simpa using h2)))
  | [], _ :: _, hl, _ => by simp at hl
  | _ :: _, [], hl, _ => by simp at hl
theorem VRL.append : ∀ {l k : List AV} {vs us : List Value}, VRL ρ l vs → VRL ρ k us → VRL ρ (l ++ k) (vs ++ us)
  | _, _, _, _, .nil, h => h
  | _, _, _, _, .cons a v l vs hv t, h => .cons a v _ _ hv (VRL.append t h)
theorem VRL.drop : ∀ (n : Nat) {l : List AV} {vs : List Value}, VRL ρ l vs → VRL ρ (l.drop n) (vs.drop n)
  | 0, _, _, h => h
  | n + 1, _, _, .nil => .nil
  | n + 1, _, _, .cons a v l vs hv t => by simpa using VRL.drop n t
theorem VRL.take : ∀ (n : Nat) {l : List AV} {vs : List Value}, VRL ρ l vs → VRL ρ (l.take n) (vs.take n)
  | 0, _, _, h => .nil
  | n + 1, _, _, .nil => .nil
  | n + 1, _, _, .cons a v l vs hv t => by simpa using VRL.cons a v _ _ hv (VRL.take n t)
theorem VRL.map {α : Type} (f : α → AV) (g : α → Value) : ∀ (l : List α), (∀ x ∈ l, VR ρ (f x) (g x)) → VRL ρ (l.map f) (l.map g)
  | [], _ => .nil
  | x :: l, h => .cons _ _ _ _ (h x (by simp)) (VRL.map f g l (fun y hy => h y (by simp [hy])))
theorem VRL.one {a : AV} {v : Value} (h : VR ρ a v) : VRL ρ [a] [v] := .cons _ _ _ _ h .nil
theorem mem_lt (s : ByteArray) : ∀ x ∈ bytesOf s, x < 256 := by
  intro x hx
  simp only [bytesOf, List.mem_map] at hx
  obtain ⟨u, _, rfl⟩ := hx
  exact u.toNat_lt
theorem bytes_back (s : ByteArray) : (⟨((bytesOf s).map UInt8.ofNat).toArray⟩ : ByteArray) = s := by
  have : (bytesOf s).map UInt8.ofNat = s.data.toList := by
    unfold bytesOf
    rw [List.map_map]
    have : UInt8.ofNat ∘ UInt8.toNat = id := by funext b; simp
    rw [this, List.map_id]
  rw [this]
theorem VR.string (s : ByteArray) : VR ρ (.str (bytesOf s)) (.string s) := by
  have h := VR.str (ρ := ρ) (bytesOf s) (mem_lt s)
  rwa [bytes_back] at h
theorem ofV_ok : ∀ (n : Nat) (v : Value), VR ρ (ofV n v) v := by
  intro n
  induction n with
  | zero =>
    intro v
    cases v with
    | bool b => exact .bool b
    | int k m => exact .int k m
    | string s => exact VR.string s
    | pointer a => cases a with
      | none => exact .nilp
      | some a => exact .top _
    | slice a l c => unfold ofV; split <;> simp_all <;> first | exact .nils | exact .top _
    | map r => cases r with
      | none => exact .nilm
      | some a => exact .top _
    | nilFunc => exact .nilf
    | nilIface => exact .nili
    | _ => exact .top _
  | succ n ih =>
    intro v
    cases v with
    | bool b => exact .bool b
    | int k m => exact .int k m
    | string s => exact VR.string s
    | pointer a => cases a with
      | none => exact .nilp
      | some a => exact .top _
    | slice a l c => unfold ofV; split <;> simp_all <;> first | exact .nils | exact .top _
    | map r => cases r with
      | none => exact .nilm
      | some a => exact .top _
    | nilFunc => exact .nilf
    | nilIface => exact .nili
    | agg cs =>
      refine .agg _ _ ?_
      have h := VRL.map (ρ := ρ) (ofV n) id cs.toList (fun x _ => ih x)
      simpa using h
    | tuple cs =>
      refine .tuple _ _ ?_
      have h := VRL.map (ρ := ρ) (ofV n) id cs.toList (fun x _ => ih x)
      simpa using h
    | _ => exact .top _
theorem cells_ok {a : AV} {v : Value} {cs : List AV} (h : VR ρ a v) (hc : cellsA a = some cs) : VRL ρ cs v.cells.toList := by
  cases h <;> simp [cellsA] at hc <;> subst hc <;> first | assumption | (refine VRL.one ?_; constructor <;> assumption) | (exact VRL.one (by assumption))
theorem one_ok {a : AV} {v : Value} (h : VR ρ a v) (ho : one a = true) : v.oneCell' = true := by
  cases h <;> simp [one] at ho <;> rfl
end
def LE.at (e : LE) (b i : Nat) : Prop := match e with
  | .rd c j n | .wr c j n => c = b ∧ j ≤ i ∧ i < j + n
  | .all c => c = b
def Cov (T : Nat → Nat → Prop) (e : LE) : Prop := ∀ b i, e.at b i → T b i
def Fits (t : Nat) (r : RB) (n : Nat) : Prop := n ≤ r.n ∧ (t % 2 = 1 → r.base = 0 ∧ r.n = n)
theorem Fits.even (t : Nat) {r : RB} {n : Nat} (h : n ≤ r.n) : Fits (2 * t) r n := ⟨h, fun h => by omega⟩
theorem two_half (t : Nat) : 2 * t / 2 = t := by omega
theorem two_half1 (t : Nat) : (2 * t + 1) / 2 = t := by omega
def live : ABlk → Prop
  | .dead => False
  | _ => True
def loopState (ready : Bool) (p : Option Code) : LoopState := if ready then .ready else if p.isNone then .busy else .done
def BR (ρ : Env) (T : Nat → Prop) (b : Nat) (w : World) : ABlk → Prop
  | .cells t cs => ∃ r c fr, ρ b = some r ∧ w.heap[r.blk]? = some (.cells c (t / 2) fr) ∧ c.size = r.base + r.n ∧ Fits t r cs.length ∧ (∀ o, r.base ≤ o → o < c.size → (decide (fr.1 ≤ o) && decide (o < fr.2)) = false) ∧ ∀ i a, cs[i]? = some a → T i → ∃ v, c[r.base + i]? = some v ∧ VR ρ a v
  | .map es clock => ∃ r es', ρ b = some r ∧ w.heap[r.blk]? = some (.map es' clock) ∧ (VRL ρ (es.map (·.k)) (es'.toList.map (·.key)) ∧ VRL ρ (es.map (·.v)) (es'.toList.map (·.val)) ∧ es.map (·.born) = es'.toList.map (·.born))
  | .miter m since seen last => ∃ r m', ρ b = some r ∧ r.base = 0 ∧ w.heap[r.blk]? = some (.mapIter m' since seen.toArray last) ∧ (match m with | none => m' = none | some m => ∃ q, ρ m = some q ∧ m' = some q.blk)
  | .siter l pos => ∃ r, ρ b = some r ∧ r.base = 0 ∧ w.heap[r.blk]? = some (.stringIter ⟨(l.map UInt8.ofNat).toArray⟩ pos) ∧ ∀ x ∈ l, x < 256
  | .pmap es => ∃ r es' el clock, ρ b = some r ∧ w.heap[r.blk]? = some (.map es' clock) ∧ List.Perm el es ∧ (VRL ρ (el.map (·.k)) (es'.toList.map (·.key)) ∧ VRL ρ (el.map (·.v)) (es'.toList.map (·.val)))
  | .defd => ∃ r, ρ b = some r ∧ w.heap[r.blk]? = some (.deferred (some []))
  | .loop ready p sz tmps ps assign body d => ∃ r fn tmps' q, ρ b = some r ∧ ρ d = some q ∧ w.heap[r.blk]? = some (.loop { state := loopState ready p, pending := p, fn := fn, tmps := tmps', params := ps.toArray, assign := assign, body := body, defers := q.blk }) ∧ tmps'.size = sz ∧ ∀ t, VR ρ ((tmps.get t).getD (.tuple [])) (tmps'.getD t undef)
  | .dead => True
def Wrt (ρ : Env) (log : List LE) (B o : Nat) : Prop := ∃ e ∈ log, ∃ r, ρ e.blk = some r ∧ r.blk = B ∧ (match e with | .rd _ _ _ => False | .wr _ i n => r.base + i ≤ o ∧ o < r.base + i + n | .all _ => True)
def All (ρ : Env) (log : List LE) (B : Nat) : Prop := ∃ b r, LE.all b ∈ log ∧ ρ b = some r ∧ r.blk = B
structure Unch (ρ : Env) (log : List LE) (w w' : World) : Prop where
  os : w'.os = w.os
  tape : w'.tape = w.tape
  output : w'.output = w.output
  size : w.heap.size ≤ w'.heap.size
  block : ∀ B, B < w.heap.size → (∀ o, ¬ Wrt ρ log B o) → w'.heap[B]? = w.heap[B]?
  cells : ∀ B c t fr, w.heap[B]? = some (.cells c t fr) → ¬ All ρ log B → ∃ c', w'.heap[B]? = some (.cells c' t fr) ∧ c'.size = c.size ∧ ∀ o, ¬ Wrt ρ log B o → c'[o]? = c[o]?
structure Good (ρ : Env) (T : Nat → Nat → Prop) (h : Nat → Option ABlk) (w : World) : Prop where
  sat : ∀ b x, h b = some x → (∃ i, T b i) → BR ρ (T b) b w x
  inj : ∀ b b' r r' x x', h b = some x → h b' = some x' → live x → live x' → (∃ i, T b i) → (∃ i, T b' i) → ρ b = some r → ρ b' = some r' → r.blk = r'.blk → b = b'
  old : ∀ b r, ρ b = some r → r.blk < w.heap.size
def WfS (s : St) : Prop := ∀ b, s.n ≤ b → s.heap.get b = none
def LE.wrote (e : LE) (b i : Nat) : Prop := match e with
  | .wr c j n => c = b ∧ j ≤ i ∧ i < j + n
  | _ => False
def Keep (log : List LE) (b : Nat) : ABlk → Option ABlk → Prop
  | .cells t cs, y => ∃ cs', y = some (.cells t cs') ∧ cs'.length = cs.length ∧ ∀ i, (∀ e ∈ log, ¬ e.wrote b i) → cs'[i]? = cs[i]?
  | x, y => y = some x
theorem Keep.refl (log : List LE) (b : Nat) (x : ABlk) : Keep log b x (some x) := by
  cases x <;> first | rfl | exact ⟨_, rfl, rfl, fun _ _ => rfl⟩
theorem Keep.mono {l l' : List LE} (hl : ∀ e ∈ l, e ∈ l') {b : Nat} {x : ABlk} {y : Option ABlk} (h : Keep l b x y) : Keep l' b x y := by
  cases x with
  | cells t cs => obtain ⟨cs', h1, h2, h3⟩ := h; exact ⟨cs', h1, h2, fun i hi => h3 i (fun e he => hi e (hl e he))⟩
  | _ => exact h
theorem Keep.trans {l l' : List LE} (hl : ∀ e ∈ l, e ∈ l') {b : Nat} {x y : ABlk} {z : Option ABlk} (h : Keep l b x (some y)) (k : Keep l' b y z) : Keep l' b x z := by
  cases x with
  | cells t cs =>
    obtain ⟨cs', h1, h2, h3⟩ := h
    cases h1
    obtain ⟨cs2, k1, k2, k3⟩ := k
    exact ⟨cs2, k1, k2.trans h2, fun i hi => (k3 i hi).trans (h3 i (fun e he => hi e (hl e he)))⟩
  | _ => cases h; exact k
theorem Keep.some {l : List LE} {b : Nat} {x : ABlk} {y : Option ABlk} (h : Keep l b x y) : ∃ z, y = some z := by
  cases x with
  | cells t cs => obtain ⟨cs', h1, _⟩ := h; exact ⟨_, h1⟩
  | _ => exact ⟨_, h⟩
structure Mono (s s' : St) : Prop where
  n : s.n ≤ s'.n
  log : ∀ e ∈ s.log, e ∈ s'.log
  wf : WfS s → WfS s'
  keep : WfS s → ∀ b x, s.heap.get b = some x → LE.all b ∉ s'.log → Keep s'.log b x (s'.heap.get b)
  lv : WfS s → ∀ b x', b < s.n → s'.heap.get b = some x' → live x' → ∃ x, s.heap.get b = some x ∧ live x
  lw : WfS s → ∀ e ∈ s'.log, e ∈ s.log ∨ s.n ≤ e.blk ∨ ∃ x, s.heap.get e.blk = some x ∧ live x
  lb : WfS s → (∀ e ∈ s.log, e.blk < s.n) → ∀ e ∈ s'.log, e.blk < s'.n
theorem Mono.refl (s : St) : Mono s s := ⟨Nat.le_refl _, fun _ h => h, fun h => h, fun _ b x h _ => by rw [h]; exact Keep.refl _ _ _, fun _ _ x' _ h hl => ⟨x', h, hl⟩, fun _ _ h => .inl h, fun _ h => h⟩
theorem Mono.trans {a b c : St} (h : Mono a b) (k : Mono b c) : Mono a c := ⟨Nat.le_trans h.n k.n, fun e he => k.log e (h.log e he), fun hw => k.wf (h.wf hw), fun hw i x hx hn => by
  have h1 := h.keep hw i x hx (fun hm => hn (k.log _ hm))
  obtain ⟨z, hz⟩ := h1.some
  rw [hz] at h1
  exact h1.trans k.log (k.keep (h.wf hw) i z hz hn), fun hw i x' hi hx hl => by
  obtain ⟨y, hy, hyl⟩ := k.lv (h.wf hw) i x' (Nat.lt_of_lt_of_le hi h.n) hx hl
  exact h.lv hw i y hi hy hyl, fun hw e he => by
  rcases k.lw (h.wf hw) e he with h1 | h1 | ⟨x, h1, h2⟩
  · exact h.lw hw e h1
  · exact .inr (.inl (Nat.le_trans h.n h1))
  · by_cases hb : e.blk < a.n
    · exact .inr (.inr (h.lv hw _ x hb h1 h2))
    · exact .inr (.inl (Nat.not_lt.1 hb)), fun hw hl => k.lb (h.wf hw) (h.lb hw hl)⟩
def Tn (T : Nat → Nat → Prop) (n n' : Nat) : Nat → Nat → Prop := fun b i => T b i ∨ n ≤ b ∧ b < n'
structure Pre (ρ : Env) (T : Nat → Nat → Prop) (s s' : St) (w : World) : Prop where
  good : Good ρ T s.heap.get w
  cov : ∀ e ∈ s'.log, e.blk < s.n → Cov T e
  fresh : ∀ b, s.n ≤ b → b < s'.n → ρ b = none
  wf : WfS s
  tn : ∀ b i, T b i → b < s.n
structure Post (ρ : Env) (T : Nat → Nat → Prop) (s : St) (w : World) (ρ' : Env) (s' : St) (w' : World) : Prop where
  ext : ρ.le ρ'
  new : ∀ b r, ρ' b = some r → ρ b = some r ∨ s.n ≤ b ∧ b < s'.n
  fr : ∀ b r, ρ b = none → ρ' b = some r → r.blk < w.heap.size → All ρ s'.log r.blk
  good : Good ρ' (Tn T s.n s'.n) s'.heap.get w'
  unch : Unch ρ s'.log w w'
theorem Unch.refl (ρ : Env) (log : List LE) (w w' : World) (ho : w'.os = w.os) (ht : w'.tape = w.tape) (hp : w'.output = w.output) (hh : w'.heap = w.heap) : Unch ρ log w w' :=
  ⟨ho, ht, hp, by rw [hh]; exact Nat.le_refl _, fun _ _ _ => by rw [hh], fun B c t fr h _ => ⟨c, by rw [hh]; exact h, rfl, fun _ _ => rfl⟩⟩
theorem Wrt.mono {ρ ρ' : Env} {l l' : List LE} {B o : Nat} (h : Wrt ρ l B o) (hr : ρ.le ρ') (hl : ∀ e ∈ l, e ∈ l') : Wrt ρ' l' B o := by
  obtain ⟨e, he, r, h1, h2, h3⟩ := h
  exact ⟨e, hl e he, r, hr _ _ h1, h2, h3⟩
theorem All.mono {ρ ρ' : Env} {l l' : List LE} {B : Nat} (h : All ρ l B) (hr : ρ.le ρ') (hl : ∀ e ∈ l, e ∈ l') : All ρ' l' B := by
  obtain ⟨b, r, h1, h2, h3⟩ := h
  exact ⟨b, r, hl _ h1, hr _ _ h2, h3⟩
theorem All.wrt {ρ : Env} {l : List LE} {B : Nat} (h : All ρ l B) (o : Nat) : Wrt ρ l B o := by
  obtain ⟨b, r, h1, h2, h3⟩ := h
  exact ⟨.all b, h1, r, h2, h3, trivial⟩
theorem Wrt.back {ρ ρ1 : Env} {l l1 : List LE} {w : World} {B o : Nat} (hB : B < w.heap.size) (hl : ∀ e ∈ l, e ∈ l1) (hext : ρ.le ρ1)
    (hfr : ∀ b r, ρ b = none → ρ1 b = some r → r.blk < w.heap.size → All ρ l r.blk) (h : Wrt ρ1 l1 B o) : Wrt ρ l1 B o := by
  obtain ⟨e, he, r, h1, h2, h3⟩ := h
  cases hb : ρ e.blk with
  | none =>
    have := hfr _ r hb h1 (by omega)
    rw [h2] at this
    exact (this.mono (Env.le_refl ρ) hl).wrt o
  | some r0 =>
    have : r0 = r := Option.some.inj ((hext _ _ hb).symm.trans h1)
    subst this
    exact ⟨e, he, r0, hb, h2, h3⟩
theorem All.back {ρ ρ1 : Env} {l l1 : List LE} {w : World} {B : Nat} (hB : B < w.heap.size) (hl : ∀ e ∈ l, e ∈ l1) (hext : ρ.le ρ1)
    (hfr : ∀ b r, ρ b = none → ρ1 b = some r → r.blk < w.heap.size → All ρ l r.blk) (h : All ρ1 l1 B) : All ρ l1 B := by
  obtain ⟨b, r, h1, h2, h3⟩ := h
  cases hb : ρ b with
  | none =>
    have := hfr _ r hb h2 (by omega)
    rw [h3] at this
    exact this.mono (Env.le_refl ρ) hl
  | some r0 =>
    have : r0 = r := Option.some.inj ((hext _ _ hb).symm.trans h2)
    subst this
    exact ⟨b, r0, h1, hb, h3⟩
theorem lt_of_some {w : World} {B : Nat} {o : Obj} (h : w.heap[B]? = some o) : B < w.heap.size := (Array.getElem?_eq_some_iff.1 h).1
theorem Unch.trans {ρ ρ1 : Env} {l l1 : List LE} {w w1 w2 : World} (h : Unch ρ l w w1) (k : Unch ρ1 l1 w1 w2) (hl : ∀ e ∈ l, e ∈ l1) (hext : ρ.le ρ1)
    (hfr : ∀ b r, ρ b = none → ρ1 b = some r → r.blk < w.heap.size → All ρ l r.blk) : Unch ρ l1 w w2 := by
  refine ⟨k.os.trans h.os, k.tape.trans h.tape, k.output.trans h.output, Nat.le_trans h.size k.size, fun B hB hn => ?_, fun B c t fr hc hna => ?_⟩
  · rw [k.block B (Nat.lt_of_lt_of_le hB h.size) (fun o hw => hn o (hw.back hB hl hext hfr)), h.block B hB (fun o hw => hn o (hw.mono (Env.le_refl ρ) hl))]
  · have hB := lt_of_some hc
    obtain ⟨c1, h1, hs1, he1⟩ := h.cells B c t fr hc (fun ha => hna (ha.mono (Env.le_refl ρ) hl))
    obtain ⟨c2, h2, hs2, he2⟩ := k.cells B c1 t fr h1 (fun ha => hna (ha.back hB hl hext hfr))
    exact ⟨c2, h2, hs2.trans hs1, fun o ho => (he2 o (fun hw => ho (hw.back hB hl hext hfr))).trans (he1 o (fun hw => ho (hw.mono (Env.le_refl ρ) hl)))⟩
theorem Tn_trans {T : Nat → Nat → Prop} {a b c : Nat} (h1 : a ≤ b) (h2 : b ≤ c) : Tn (Tn T a b) b c = Tn T a c := by
  funext x i
  unfold Tn
  apply propext
  constructor
  · rintro ((h | h) | h)
    · exact .inl h
    · exact .inr ⟨h.1, by omega⟩
    · exact .inr ⟨by omega, h.2⟩
  · rintro (h | h)
    · exact .inl (.inl h)
    · by_cases hb : x < b
      · exact .inl (.inr ⟨h.1, hb⟩)
      · exact .inr ⟨by omega, h.2⟩
theorem Pre.first {ρ : Env} {T : Nat → Nat → Prop} {s s1 s2 : St} {w : World} (h : Pre ρ T s s2 w) (m2 : Mono s1 s2) : Pre ρ T s s1 w :=
  ⟨h.good, fun e he hb => h.cov e (m2.log e he) hb, fun b h1 h2 => h.fresh b h1 (Nat.lt_of_lt_of_le h2 m2.n), h.wf, h.tn⟩
theorem Pre.next {ρ ρ1 : Env} {T : Nat → Nat → Prop} {s s1 s2 : St} {w w1 : World} (h : Pre ρ T s s2 w) (m1 : Mono s s1) (m2 : Mono s1 s2) (k : Post ρ T s w ρ1 s1 w1) : Pre ρ1 (Tn T s.n s1.n) s1 s2 w1 :=
  ⟨k.good, fun e he hb => by
    intro b i hbi
    have hbb : e.blk = b := by cases e <;> first | exact hbi.1 | exact hbi
    by_cases hs : e.blk < s.n
    · exact .inl (h.cov e he hs b i hbi)
    · exact .inr ⟨by omega, by omega⟩, fun b h1 h2 => by
    cases hb : ρ1 b with
    | none => rfl
    | some r =>
      rcases k.new b r hb with h3 | h3
      · rw [h.fresh b (Nat.le_trans m1.n h1) h2] at h3; cases h3
      · omega, m1.wf h.wf, fun b i hb => by
    rcases hb with hb | hb
    · exact Nat.lt_of_lt_of_le (h.tn b i hb) m1.n
    · exact hb.2⟩
theorem Post.trans {ρ ρ1 ρ2 : Env} {T : Nat → Nat → Prop} {s s1 s2 : St} {w w1 w2 : World} (m1 : Mono s s1) (m2 : Mono s1 s2) (h : Post ρ T s w ρ1 s1 w1) (k : Post ρ1 (Tn T s.n s1.n) s1 w1 ρ2 s2 w2) : Post ρ T s w ρ2 s2 w2 :=
  ⟨Env.le_trans h.ext k.ext, fun b r hb => by
    rcases k.new b r hb with h3 | h3
    · rcases h.new b r h3 with h4 | h4
      · exact .inl h4
      · have := m2.n; exact .inr ⟨h4.1, by omega⟩
    · have := m1.n; exact .inr ⟨by omega, h3.2⟩, fun b r hb hr hlt => by
    cases h1 : ρ1 b with
    | some r1 =>
      have : r1 = r := Option.some.inj ((k.ext _ _ h1).symm.trans hr)
      subst this
      exact (h.fr b r1 hb h1 hlt).mono (Env.le_refl ρ) m2.log
    | none => exact (k.fr b r h1 hr (Nat.lt_of_lt_of_le hlt h.unch.size)).back hlt m2.log h.ext (fun b r h1 h2 h3 => h.fr b r h1 h2 h3), by
    have := k.good
    rwa [Tn_trans m1.n m2.n] at this, h.unch.trans k.unch m2.log h.ext (fun b r h1 h2 h3 => h.fr b r h1 h2 h3)⟩
end Go.Proofs.YtmabpnmnppfgaaaGreatDoor.Rk
namespace Go.Proofs.YtmabpnmnppfgaaaGreatDoor.Rk
open Go
set_option linter.unusedVariables false
theorem BR.mono {ρ ρ' : Env} {T T' : Nat → Prop} {b : Nat} {w w' : World} {x : ABlk} (h : BR ρ T b w x) (hr : ρ.le ρ') (hT : ∀ i, T' i → T i) (hw : ∀ r, ρ b = some r → w'.heap[r.blk]? = w.heap[r.blk]?) : BR ρ' T' b w' x := by
  cases x with
  | cells t cs =>
    obtain ⟨r, c, fr, h1, h2, h3, h4, h5, h6⟩ := h
    exact ⟨r, c, fr, hr _ _ h1, (hw r h1).trans h2, h3, h4, h5, fun i a hi ht => let ⟨v, hv, hR⟩ := h6 i a hi (hT i ht); ⟨v, hv, hR.mono hr⟩⟩
  | map es clock =>
    obtain ⟨r, es', h1, h2, h3, h4, h5⟩ := h
    exact ⟨r, es', hr _ _ h1, (hw r h1).trans h2, VRL.mono hr h3, VRL.mono hr h4, h5⟩
  | miter m since seen last =>
    obtain ⟨r, m', h1, h2, h3, h4⟩ := h
    refine ⟨r, m', hr _ _ h1, h2, (hw r h1).trans h3, ?_⟩
    cases m with
    | none => exact h4
    | some m => obtain ⟨q, hq, e⟩ := h4; exact ⟨q, hr _ _ hq, e⟩
  | siter l pos =>
    obtain ⟨r, h1, h2, h3, h4⟩ := h
    exact ⟨r, hr _ _ h1, h2, (hw r h1).trans h3, h4⟩
  | pmap es =>
    obtain ⟨r, es', el, clock, h1, h2, h3, h4, h5⟩ := h
    exact ⟨r, es', el, clock, hr _ _ h1, (hw r h1).trans h2, h3, VRL.mono hr h4, VRL.mono hr h5⟩
  | defd =>
    obtain ⟨r, h1, h2⟩ := h
    exact ⟨r, hr _ _ h1, (hw r h1).trans h2⟩
  | loop ready p sz tmps ps assign body d =>
    obtain ⟨r, fn, tmps', q, h1, hq, h2, h3, h4⟩ := h
    exact ⟨r, fn, tmps', q, hr _ _ h1, hr _ _ hq, (hw r h1).trans h2, h3, fun t => (h4 t).mono hr⟩
  | dead => trivial
theorem BR.where_ {ρ : Env} {T : Nat → Prop} {b : Nat} {w : World} {x : ABlk} (h : BR ρ T b w x) (hl : live x) : ∃ r o, ρ b = some r ∧ w.heap[r.blk]? = some o := by
  cases x with
  | cells t cs => obtain ⟨r, c, fr, h1, h2, _⟩ := h; exact ⟨r, _, h1, h2⟩
  | map es clock => obtain ⟨r, es', h1, h2, _⟩ := h; exact ⟨r, _, h1, h2⟩
  | miter m since seen last => obtain ⟨r, m', h1, _, h2, _⟩ := h; exact ⟨r, _, h1, h2⟩
  | siter l pos => obtain ⟨r, h1, _, h2, _⟩ := h; exact ⟨r, _, h1, h2⟩
  | pmap es => obtain ⟨r, es', el, clock, h1, h2, _⟩ := h; exact ⟨r, _, h1, h2⟩
  | defd => obtain ⟨r, h1, h2⟩ := h; exact ⟨r, _, h1, h2⟩
  | loop ready p sz tmps ps assign body d => obtain ⟨r, fn, tmps', q, h1, hq, h2, _⟩ := h; exact ⟨r, _, h1, h2⟩
  | dead => exact hl.elim
theorem Tn_same (T : Nat → Nat → Prop) (n : Nat) : Tn T n n = T := by
  funext b i
  unfold Tn
  exact propext ⟨fun h => h.elim id (fun h => by omega), .inl⟩
structure Still (w w' : World) : Prop where
  os : w'.os = w.os
  tape : w'.tape = w.tape
  output : w'.output = w.output
  heap : w'.heap = w.heap
theorem Still.refl (w : World) : Still w w := ⟨rfl, rfl, rfl, rfl⟩
structure Alt (w w' : World) (B : Nat) (o : Obj) : Prop where
  os : w'.os = w.os
  tape : w'.tape = w.tape
  output : w'.output = w.output
  size : w'.heap.size = w.heap.size
  here : w'.heap[B]? = some o
  other : ∀ B', B' ≠ B → w'.heap[B']? = w.heap[B']?
structure Add (w w' : World) (o : Obj) : Prop where
  os : w'.os = w.os
  tape : w'.tape = w.tape
  output : w'.output = w.output
  size : w'.heap.size = w.heap.size + 1
  here : w'.heap[w.heap.size]? = some o
  other : ∀ B, B < w.heap.size → w'.heap[B]? = w.heap[B]?
theorem Add.push (w : World) (o : Obj) : Add w { w with heap := w.heap.push o } o :=
  ⟨rfl, rfl, rfl, by simp, by simp, fun B h => by simp [Array.getElem?_push]; omega⟩
theorem Add.drew {w w' : World} {o : Obj} (h : Add w w' o) (n : Nat) : Add w { w' with drawn := n } o := ⟨h.os, h.tape, h.output, h.size, h.here, h.other⟩
section
variable {ρ : Env} {T : Nat → Nat → Prop} {s s' : St} {w w' : World}
theorem good_same {s1 : St} (h : Good ρ T s.heap.get w) (hs : s1.heap = s.heap) (hw : Still w w') : Good ρ T s1.heap.get w' :=
  ⟨fun b x hb hT => by rw [hs] at hb; exact (h.sat b x hb hT).mono (Env.le_refl ρ) (fun _ h => h) (fun r _ => by rw [hw.heap]), fun b b' r r' x x' hx hx' hl hl' ht ht' hr hr' e => by rw [hs] at hx hx'; exact h.inj b b' r r' x x' hx hx' hl hl' ht ht' hr hr' e, fun b r hb => by rw [hw.heap]; exact h.old b r hb⟩
theorem Post.same (h : Good ρ T s.heap.get w) (hs : s'.heap = s.heap) (hn : s'.n = s.n) (hw : Still w w') : Post ρ T s w ρ s' w' :=
  ⟨Env.le_refl ρ, fun b r h => .inl h, fun b r h1 h2 _ => (nomatch (h1.symm.trans h2)), by rw [hn, Tn_same]; exact good_same h hs hw, Unch.refl _ _ _ _ hw.os hw.tape hw.output hw.heap⟩
theorem Mono.same (hs : s'.heap = s.heap) (hn : s'.n = s.n) (hl : s'.log = s.log) : Mono s s' :=
  ⟨Nat.le_of_eq hn.symm, fun e he => by rw [hl]; exact he, fun h b hb => by rw [hs]; exact h b (by omega), fun _ b x h _ => by rw [hs, h]; exact Keep.refl _ _ _, fun _ b x' _ h hl => ⟨x', by rw [← hs]; exact h, hl⟩, fun _ e he => .inl (by rw [← hl]; exact he), fun _ hb e he => by rw [hn]; exact hb e (by rw [← hl]; exact he)⟩
def Env.add (ρ : Env) (b : Nat) (r : RB) : Env := fun x => if x = b then some r else ρ x
theorem Env.add_le {b : Nat} {r : RB} (h : ρ b = none) : ρ.le (ρ.add b r) := fun x q hq => by
  unfold Env.add
  by_cases hx : x = b
  · subst hx; rw [h] at hq; cases hq
  · rw [if_neg hx]; exact hq
theorem Env.add_self (b : Nat) (r : RB) : (ρ.add b r) b = some r := if_pos rfl
theorem Env.add_ne {b x : Nat} (r : RB) (h : x ≠ b) : (ρ.add b r) x = ρ x := if_neg h
theorem get_new (s : St) (x : ABlk) (b : Nat) : (s.new x).heap.get b = if b = s.n then some x else s.heap.get b := Tr.get_set _ _ _ _
theorem get_put (s : St) (c : Nat) (x : ABlk) (b : Nat) : (s.put c x).heap.get b = if b = c then some x else s.heap.get b := Tr.get_set _ _ _ _
theorem lt_wf {s : St} {b : Nat} {x : ABlk} (hw : WfS s) (h : s.heap.get b = some x) : b < s.n := by
  rcases Nat.lt_or_ge b s.n with h1 | h1
  · exact h1
  · rw [hw b h1] at h; cases h
theorem Mono.new (s : St) (x : ABlk) : Mono s (s.new x) :=
  ⟨Nat.le_succ _, fun _ h => h, fun h b hb => by
    have hb' : s.n + 1 ≤ b := hb
    rw [get_new, if_neg (by omega)]
    exact h b (by omega), fun hw b y h _ => by
    have : b ≠ s.n := fun e => by rw [hw b (by omega)] at h; cases h
    rw [get_new, if_neg this, h]
    exact Keep.refl _ _ _, fun _ b x' hb h hl => by
    rw [get_new, if_neg (by omega)] at h
    exact ⟨x', h, hl⟩, fun _ _ h => .inl h, fun _ hb e he => Nat.lt_succ_of_lt (hb e he)⟩
theorem Mono.put_note (s : St) (c : Nat) (x : ABlk) (hc : ∃ y, s.heap.get c = some y ∧ live y) : Mono s ((s.put c x).note (.all c)) :=
  ⟨Nat.le_refl _, fun _ h => List.mem_cons_of_mem _ h, fun h b hb => by
    show (s.put c x).heap.get b = none
    rw [get_put]
    by_cases hbc : b = c
    · subst hbc; obtain ⟨y, hy, _⟩ := hc; rw [h b hb] at hy; cases hy
    · rw [if_neg hbc]; exact h b hb, fun hw b y h hn => by
    show Keep _ b y ((s.put c x).heap.get b)
    rw [get_put]
    by_cases hbc : b = c
    · subst hbc; exact absurd (List.mem_cons_self ..) hn
    · rw [if_neg hbc, h]; exact Keep.refl _ _ _, fun _ b x' _ h hl => by
    replace h : (s.put c x).heap.get b = some x' := h
    rw [get_put] at h
    by_cases hbc : b = c
    · subst hbc; exact hc
    · rw [if_neg hbc] at h; exact ⟨x', h, hl⟩, fun _ e he => by
    rcases List.mem_cons.1 he with rfl | he
    · exact .inr (.inr hc)
    · exact .inl he, fun hw hb e he => by
    rcases List.mem_cons.1 he with rfl | he
    · obtain ⟨y, hy, _⟩ := hc; show c < s.n; exact lt_wf hw hy
    · exact hb e he⟩
theorem Mono.write (s : St) (c : Nat) {t : TypeId} {cs cs' : List AV} {off n : Nat} (hc : s.heap.get c = some (.cells t cs)) (hl : cs'.length = cs.length) (hk : ∀ i, ¬ (off ≤ i ∧ i < off + n) → cs'[i]? = cs[i]?) : Mono s ((s.put c (.cells t cs')).note (.wr c off n)) :=
  ⟨Nat.le_refl _, fun _ h => List.mem_cons_of_mem _ h, fun h b hb => by
    show (s.put c (.cells t cs')).heap.get b = none
    rw [get_put]
    by_cases hbc : b = c
    · subst hbc; rw [h b hb] at hc; cases hc
    · rw [if_neg hbc]; exact h b hb, fun hw b y h hn => by
    show Keep _ b y ((s.put c (.cells t cs')).heap.get b)
    rw [get_put]
    by_cases hbc : b = c
    · subst hbc
      rw [if_pos rfl]
      rw [hc] at h
      cases h
      exact ⟨cs', rfl, hl, fun i hi => hk i (fun hh => hi (.wr b off n) (List.mem_cons_self ..) ⟨rfl, hh⟩)⟩
    · rw [if_neg hbc, h]; exact Keep.refl _ _ _, fun _ b x' _ h hl2 => by
    replace h : (s.put c (.cells t cs')).heap.get b = some x' := h
    rw [get_put] at h
    by_cases hbc : b = c
    · subst hbc; exact ⟨_, hc, trivial⟩
    · rw [if_neg hbc] at h; exact ⟨x', h, hl2⟩, fun _ e he => by
    rcases List.mem_cons.1 he with rfl | he
    · exact .inr (.inr ⟨_, hc, trivial⟩)
    · exact .inl he, fun hw hb e he => by
    rcases List.mem_cons.1 he with rfl | he
    · show c < s.n; exact lt_wf hw hc
    · exact hb e he⟩
theorem Mono.note (s : St) (e : LE) (hc : ∃ y, s.heap.get e.blk = some y ∧ live y) : Mono s (s.note e) := ⟨Nat.le_refl _, fun _ h => List.mem_cons_of_mem _ h, fun h b hb => h b hb, fun _ b x h _ => by
  show Keep _ b x (s.heap.get b)
  rw [h]; exact Keep.refl _ _ _, fun _ b x' _ h hl => ⟨x', h, hl⟩, fun _ e he => by
  rcases List.mem_cons.1 he with rfl | he
  · exact .inr (.inr hc)
  · exact .inl he, fun hw hb e he => by
  rcases List.mem_cons.1 he with rfl | he
  · obtain ⟨y, hy, _⟩ := hc; show _ < s.n; exact lt_wf hw hy
  · exact hb e he⟩
theorem tn_old {n n' b : Nat} (hb : b < n) (h : ∃ i, Tn T n n' b i) : ∃ i, T b i := by
  obtain ⟨i, h | h⟩ := h
  · exact ⟨i, h⟩
  · omega
theorem Post.made {x : ABlk} {o : Obj} {r : RB} (h : Good ρ T s.heap.get w) (hwf : WfS s) (hf : ρ s.n = none) (htn : ∀ b i, T b i → b < s.n) (hw : Add w w' o) (hr : r.blk = w.heap.size)
    (hx : BR (ρ.add s.n r) (fun _ => True) s.n w' x) : Post ρ T s w (ρ.add s.n r) (s.new x) w' := by
  have hle := Env.add_le (r := r) hf
  refine ⟨hle, fun b q hb => ?_, fun b q h1 h2 hlt => ?_, ⟨fun b y hb hT => ?_, fun b b' q q' y y' hy hy' hl hl' ht ht' hq hq' e => ?_, fun b q hb => ?_⟩, ⟨hw.os, hw.tape, hw.output, by have := hw.size; omega, fun B hB _ => hw.other B hB, fun B c t fr hc _ => ⟨c, (hw.other B (lt_of_some hc)).trans hc, rfl, fun _ _ => rfl⟩⟩⟩
  · by_cases hbn : b = s.n
    · subst hbn; exact .inr ⟨Nat.le_refl _, Nat.lt_succ_self _⟩
    · rw [Env.add_ne r hbn] at hb; exact .inl hb
  · by_cases hbn : b = s.n
    · subst hbn
      rw [Env.add_self] at h2
      cases h2
      omega
    · rw [Env.add_ne r hbn, h1] at h2; cases h2
  · rw [get_new] at hb
    by_cases hbn : b = s.n
    · subst hbn
      rw [if_pos rfl] at hb
      cases hb
      exact hx.mono (Env.le_refl _) (fun _ _ => trivial) (fun _ _ => rfl)
    · rw [if_neg hbn] at hb
      have hbo : b < s.n := by
        rcases Nat.lt_or_ge b s.n with h1 | h1
        · exact h1
        · rw [hwf b h1] at hb; cases hb
      refine (h.sat b y hb (tn_old hbo hT)).mono hle (fun i hi => ?_) (fun q hq => hw.other _ (h.old b q hq))
      rcases hi with hi | hi
      · exact hi
      · omega
  · rw [get_new] at hy hy'
    have key : ∀ b y q, (if b = s.n then some x else s.heap.get b) = some y → (ρ.add s.n r) b = some q → (b = s.n ∧ q = r) ∨ (b ≠ s.n ∧ b < s.n ∧ s.heap.get b = some y ∧ ρ b = some q) := fun b y q hy hq => by
      by_cases hb : b = s.n
      · subst hb; rw [Env.add_self] at hq; cases hq; exact .inl ⟨rfl, rfl⟩
      · rw [if_neg hb] at hy
        rw [Env.add_ne r hb] at hq
        refine .inr ⟨hb, ?_, hy, hq⟩
        rcases Nat.lt_or_ge b s.n with h1 | h1
        · exact h1
        · rw [hwf b h1] at hy; cases hy
    rcases key b y q hy hq with ⟨h1, h2⟩ | ⟨h1, h2, h3, h4⟩ <;> rcases key b' y' q' hy' hq' with ⟨h1', h2'⟩ | ⟨h1', h2', h3', h4'⟩
    · omega
    · have := h.old _ _ h4'; rw [h2] at e; omega
    · have := h.old _ _ h4; rw [h2'] at e; omega
    · exact h.inj b b' q q' y y' h3 h3' hl hl' (tn_old h2 ht) (tn_old h2' ht') h4 h4' e
  · have := hw.size
    by_cases hbn : b = s.n
    · subst hbn; rw [Env.add_self] at hb; cases hb; omega
    · rw [Env.add_ne r hbn] at hb; have := h.old b q hb; omega
theorem at_blk {e : LE} {b i : Nat} (h : e.at b i) : e.blk = b := by cases e <;> first | exact h.1 | exact h
theorem Post.alt {x x' : ABlk} {b : Nat} {o : Obj} {r : RB} (h : Good ρ T s.heap.get w) (hb : s.heap.get b = some x) (hl : live x) (hT : ∃ i, T b i) (hr : ρ b = some r) (hw : Alt w w' r.blk o)
    (hx : BR ρ (T b) b w' x') : Post ρ T s w ρ ((s.put b x').note (.all b)) w' := by
  refine ⟨Env.le_refl ρ, fun c q hc => .inl hc, fun c q h1 h2 _ => (nomatch (h1.symm.trans h2)), ?_, ⟨hw.os, hw.tape, hw.output, Nat.le_of_eq hw.size.symm, fun B hB hn => ?_, fun B c t fr hc hna => ?_⟩⟩
  · show Good ρ (Tn T s.n s.n) _ _
    rw [Tn_same]
    refine ⟨fun c y hc hTc => ?_, fun c c' q q' y y' hy hy' hl1 hl' ht ht' hq hq' e => ?_, fun c q hc => by rw [hw.size]; exact h.old c q hc⟩
    · replace hc : (s.put b x').heap.get c = some y := hc
      rw [get_put] at hc
      by_cases hcb : c = b
      · subst hcb; rw [if_pos rfl] at hc; cases hc; exact hx
      · rw [if_neg hcb] at hc
        by_cases hly : live y
        · refine (h.sat c y hc hTc).mono (Env.le_refl ρ) (fun _ h => h) (fun q hq => hw.other _ (fun e => hcb (h.inj c b q r y x hc hb hly hl hTc hT hq hr e)))
        · cases y <;> first | exact trivial | exact absurd trivial hly
    · replace hy : (s.put b x').heap.get c = some y := hy
      replace hy' : (s.put b x').heap.get c' = some y' := hy'
      rw [get_put] at hy hy'
      have key : ∀ c y, (if c = b then some x' else s.heap.get c) = some y → live y → ∃ z, s.heap.get c = some z ∧ live z := fun c y hy hl1 => by
        by_cases hcb : c = b
        · subst hcb; exact ⟨x, hb, hl⟩
        · rw [if_neg hcb] at hy; exact ⟨y, hy, hl1⟩
      obtain ⟨z, h1, h2⟩ := key c y hy hl1
      obtain ⟨z', h1', h2'⟩ := key c' y' hy' hl'
      exact h.inj c c' q q' z z' h1 h1' h2 h2' ht ht' hq hq' e
  · refine hw.other B (fun e => hn 0 ⟨.all b, List.mem_cons_self .., r, hr, e.symm, trivial⟩)
  · exact ⟨c, (hw.other B (fun e => hna ⟨b, r, List.mem_cons_self .., hr, e.symm⟩)).trans hc, rfl, fun _ _ => rfl⟩
theorem Post.kill {x : ABlk} {b : Nat} (h : Good ρ T s.heap.get w) (hb : s.heap.get b = some x) (hl : live x) (hw : Still w w') : Post ρ T s w ρ ((s.put b .dead).note (.all b)) w' := by
  refine ⟨Env.le_refl ρ, fun c q hc => .inl hc, fun c q h1 h2 _ => (nomatch (h1.symm.trans h2)), ?_, Unch.refl _ _ _ _ hw.os hw.tape hw.output hw.heap⟩
  show Good ρ (Tn T s.n s.n) _ _
  rw [Tn_same]
  refine ⟨fun c y hc hTc => ?_, fun c c' q q' y y' hy hy' hl1 hl' ht ht' hq hq' e => ?_, fun c q hc => by rw [hw.heap]; exact h.old c q hc⟩
  · replace hc : (s.put b .dead).heap.get c = some y := hc
    rw [get_put] at hc
    by_cases hcb : c = b
    · rw [if_pos hcb] at hc; cases hc; exact trivial
    · rw [if_neg hcb] at hc
      exact (h.sat c y hc hTc).mono (Env.le_refl ρ) (fun _ h => h) (fun q _ => by rw [hw.heap])
  · replace hy : (s.put b .dead).heap.get c = some y := hy
    replace hy' : (s.put b .dead).heap.get c' = some y' := hy'
    rw [get_put] at hy hy'
    have key : ∀ c y, (if c = b then some .dead else s.heap.get c) = some y → live y → s.heap.get c = some y := fun c y hy hl1 => by
      by_cases hcb : c = b
      · rw [if_pos hcb] at hy; cases hy; exact hl1.elim
      · rwa [if_neg hcb] at hy
    exact h.inj c c' q q' y y' (key c y hy hl1) (key c' y' hy' hl') hl1 hl' ht ht' hq hq' e
theorem Post.write {t : TypeId} {cs cs' : List AV} {b off n : Nat} {r : RB} {c c' : Array Value} {fr : Nat × Nat} (h : Good ρ T s.heap.get w) (hb : s.heap.get b = some (.cells t cs)) (hT : ∃ i, T b i) (hr : ρ b = some r)
    (hc : w.heap[r.blk]? = some (.cells c (t / 2) fr)) (hw : Alt w w' r.blk (.cells c' (t / 2) fr)) (hz : c'.size = c.size) (hs : ∀ o, ¬ (r.base + off ≤ o ∧ o < r.base + off + n) → c'[o]? = c[o]?) (hn : 0 < n)
    (hl : cs'.length = cs.length) (hv : ∀ i a, cs'[i]? = some a → T b i → ∃ v, c'[r.base + i]? = some v ∧ VR ρ a v) : Post ρ T s w ρ ((s.put b (.cells t cs')).note (.wr b off n)) w' := by
  have hsat := h.sat b _ hb hT
  obtain ⟨r0, c0, fr0, g1, g2, g3, g4, g5, g6⟩ := hsat
  have e1 : r0 = r := Option.some.inj (g1.symm.trans hr)
  subst e1
  have e2 : Obj.cells c0 (t / 2) fr0 = .cells c (t / 2) fr := Option.some.inj (g2.symm.trans hc)
  simp only [Obj.cells.injEq] at e2
  obtain ⟨e2, _, e3⟩ := e2
  subst e2 e3
  refine ⟨Env.le_refl ρ, fun c q hc => .inl hc, fun c q h1 h2 _ => (nomatch (h1.symm.trans h2)), ?_, ⟨hw.os, hw.tape, hw.output, Nat.le_of_eq hw.size.symm, fun B hB hno => ?_, fun B c1 t1 fr1 hc1 hna => ?_⟩⟩
  · show Good ρ (Tn T s.n s.n) _ _
    rw [Tn_same]
    refine ⟨fun c y hcy hTc => ?_, fun c c' q q' y y' hy hy' hl1 hl' ht ht' hq hq' e => ?_, fun c q hc => by rw [hw.size]; exact h.old c q hc⟩
    · replace hcy : (s.put b (.cells t cs')).heap.get c = some y := hcy
      rw [get_put] at hcy
      by_cases hcb : c = b
      · subst hcb
        rw [if_pos rfl] at hcy
        cases hcy
        exact ⟨r0, c', fr0, hr, hw.here, by rw [hz]; exact g3, by rw [hl]; exact g4, fun o h1 h2 => g5 o h1 (by rw [← hz]; exact h2), hv⟩
      · rw [if_neg hcb] at hcy
        by_cases hly : live y
        · refine (h.sat c y hcy hTc).mono (Env.le_refl ρ) (fun _ h => h) (fun q hq => hw.other _ (fun e => hcb (h.inj c b q r0 y _ hcy hb hly trivial hTc hT hq hr e)))
        · cases y <;> first | exact trivial | exact absurd trivial hly
    · replace hy : (s.put b (.cells t cs')).heap.get c = some y := hy
      replace hy' : (s.put b (.cells t cs')).heap.get c' = some y' := hy'
      rw [get_put] at hy hy'
      have key : ∀ c y, (if c = b then some (.cells t cs') else s.heap.get c) = some y → live y → ∃ z, s.heap.get c = some z ∧ live z := fun c y hy hl1 => by
        by_cases hcb : c = b
        · subst hcb; exact ⟨_, hb, trivial⟩
        · rw [if_neg hcb] at hy; exact ⟨y, hy, hl1⟩
      obtain ⟨z, h1, h2⟩ := key c y hy hl1
      obtain ⟨z', h1', h2'⟩ := key c' y' hy' hl'
      exact h.inj c c' q q' z z' h1 h1' h2 h2' ht ht' hq hq' e
  · refine hw.other B (fun e => hno (r0.base + off) ⟨.wr b off n, List.mem_cons_self .., r0, hr, e.symm, Nat.le_refl _, by omega⟩)
  · by_cases hB : B = r0.blk
    · subst hB
      rw [hc] at hc1
      cases hc1
      exact ⟨c', hw.here, hz, fun o ho => hs o (fun hh => ho ⟨.wr b off n, List.mem_cons_self .., r0, hr, rfl, hh⟩)⟩
    · exact ⟨c1, (hw.other B hB).trans hc1, rfl, fun _ _ => rfl⟩
theorem Post.adopt {x y : ABlk} {b : Nat} {o : Obj} {r q : RB} (h : Good ρ T s.heap.get w) (hwf : WfS s) (hf : ρ s.n = none) (hb : s.heap.get b = some x) (hl : live x) (hT : ∃ i, T b i) (hr : ρ b = some r) (hw : Alt w w' r.blk o) (hq : q.blk = r.blk)
    (hbn : b < s.n) (hx : BR (ρ.add s.n q) (fun _ => True) s.n w' y) : Post ρ T s w (ρ.add s.n q) (((s.put b .dead).note (.all b)).new y) w' := by
  have hle := Env.add_le (r := q) hf
  have hget : ∀ c, (((s.put b .dead).note (.all b)).new y).heap.get c = if c = s.n then some y else if c = b then some .dead else s.heap.get c := fun c => by
    rw [get_new]
    show (if c = s.n then _ else (s.put b .dead).heap.get c) = _
    rw [get_put]
  have hall : All ρ (((s.put b .dead).note (.all b)).new y).log r.blk := ⟨b, r, List.mem_cons_self .., hr, rfl⟩
  have key : ∀ c z p, (if c = s.n then some y else if c = b then some .dead else s.heap.get c) = some z → live z → (ρ.add s.n q) c = some p → (c = s.n ∧ p = q) ∨ (c ≠ s.n ∧ c < s.n ∧ c ≠ b ∧ s.heap.get c = some z ∧ ρ c = some p) := fun c z p hz hlz hp => by
    by_cases hc : c = s.n
    · subst hc; rw [Env.add_self] at hp; cases hp; exact .inl ⟨rfl, rfl⟩
    · rw [if_neg hc] at hz
      rw [Env.add_ne q hc] at hp
      by_cases hcb : c = b
      · rw [if_pos hcb] at hz; cases hz; exact hlz.elim
      · rw [if_neg hcb] at hz
        refine .inr ⟨hc, ?_, hcb, hz, hp⟩
        rcases Nat.lt_or_ge c s.n with h1 | h1
        · exact h1
        · rw [hwf c h1] at hz; cases hz
  refine ⟨hle, fun c p hc => ?_, fun c p h1 h2 hlt => ?_, ⟨fun c z hc hTc => ?_, fun c c' p p' z z' hz hz' hl1 hl' ht ht' hp hp' e => ?_, fun c p hc => ?_⟩, ⟨hw.os, hw.tape, hw.output, Nat.le_of_eq hw.size.symm, fun B hB hn => ?_, fun B c1 t1 fr1 hc1 hna => ?_⟩⟩
  · by_cases hcn : c = s.n
    · subst hcn; exact .inr ⟨Nat.le_refl _, Nat.lt_succ_self _⟩
    · rw [Env.add_ne q hcn] at hc; exact .inl hc
  · by_cases hcn : c = s.n
    · subst hcn
      rw [Env.add_self] at h2
      cases h2
      rw [hq]
      exact hall
    · rw [Env.add_ne q hcn, h1] at h2; cases h2
  · rw [hget] at hc
    by_cases hcn : c = s.n
    · subst hcn
      rw [if_pos rfl] at hc
      cases hc
      exact hx.mono (Env.le_refl _) (fun _ _ => trivial) (fun _ _ => rfl)
    · by_cases hcb : c = b
      · rw [if_neg hcn, if_pos hcb] at hc; cases hc; exact trivial
      · rw [if_neg hcn, if_neg hcb] at hc
        have hco : c < s.n := by
          rcases Nat.lt_or_ge c s.n with h1 | h1
          · exact h1
          · rw [hwf c h1] at hc; cases hc
        have hTo := tn_old hco hTc
        by_cases hlz : live z
        · refine (h.sat c z hc hTo).mono hle (fun i hi => ?_) (fun p hp => hw.other _ (fun e => hcb (h.inj c b p r z x hc hb hlz hl hTo hT hp hr e)))
          rcases hi with hi | hi
          · exact hi
          · omega
        · cases z <;> first | exact trivial | exact absurd trivial hlz
  · rw [hget] at hz hz'
    rcases key c z p hz hl1 hp with ⟨h1, h2⟩ | ⟨h1, h2, h3, h4, h5⟩ <;> rcases key c' z' p' hz' hl' hp' with ⟨h1', h2'⟩ | ⟨h1', h2', h3', h4', h5'⟩
    · omega
    · exact absurd (h.inj c' b p' r z' x h4' hb hl' hl (tn_old h2' ht') hT h5' hr (by rw [← e, h2, hq])) h3'
    · exact absurd (h.inj c b p r z x h4 hb hl1 hl (tn_old h2 ht) hT h5 hr (by rw [e, h2', hq])) h3
    · exact h.inj c c' p p' z z' h4 h4' hl1 hl' (tn_old h2 ht) (tn_old h2' ht') h5 h5' e
  · rw [hw.size]
    by_cases hcn : c = s.n
    · subst hcn; rw [Env.add_self] at hc; cases hc; rw [hq]; exact h.old b r hr
    · rw [Env.add_ne q hcn] at hc; exact h.old c p hc
  · exact hw.other B (fun e => hn 0 (e ▸ hall.wrt 0))
  · exact ⟨c1, (hw.other B (fun e => hna (e ▸ hall))).trans hc1, rfl, fun _ _ => rfl⟩
end
end Go.Proofs.YtmabpnmnppfgaaaGreatDoor.Rk
namespace Go.Proofs.YtmabpnmnppfgaaaGreatDoor.Rk
open Go
set_option linter.unusedVariables false
section
variable {P : Program} {ρ : Env} {w : World}
theorem run_info {t : TypeId} {i : TypeInfo} (h : P.info? t = some i) (w : World) : (typeInfo t).run P w = .ok i w := by
  simp [typeInfo, h]
theorem run_szOf {t : TypeId} {n : Nat} (h : szOf P t = some n) (w : World) : (sizeOf t).run P w = .ok n w := by
  unfold szOf at h
  cases hi : P.info? t with
  | none => rw [hi] at h; simp at h
  | some i => rw [hi] at h; simp at h; subst h; simp [sizeOf, run_info hi]
theorem run_agg {t : TypeId} {g : Bool} (h : aggT P t = some g) (w : World) : (isAgg t).run P w = .ok g w := by
  unfold aggT at h
  cases hd : P.underlying t with
  | none => rw [hd] at h; simp at h
  | some d =>
    rw [hd] at h
    simp only [Option.map_some, Option.some.injEq] at h
    subst h
    cases d <;> simp [isAgg, run_underlying hd, aggD]
theorem run_zero {t : TypeId} {z : AV} (h : zeroA P t = some z) (w : World) : ∃ v, (zeroValue t).run P w = .ok v w ∧ z = ofV 3 v ∧ VR ρ z v := by
  unfold zeroA at h
  cases hi : P.info? t with
  | none => rw [hi] at h; simp at h
  | some i =>
    rw [hi] at h
    cases hz : i.zero with
    | none => simp [hz] at h
    | some v =>
      simp [hz] at h
      exact ⟨v, by simp [zeroValue, run_info hi, hz], h.symm, h ▸ ofV_ok 3 v⟩
theorem map_ofNat_inj {l k : List Nat} (hl : ∀ x ∈ l, x < 256) (hk : ∀ x ∈ k, x < 256) : (l.map UInt8.ofNat = k.map UInt8.ofNat) ↔ l = k := by
  constructor
  · intro h
    have := congrArg (List.map UInt8.toNat) h
    rw [List.map_map, List.map_map] at this
    have e : ∀ m : List Nat, (∀ x ∈ m, x < 256) → m.map (UInt8.toNat ∘ UInt8.ofNat) = m := fun m hm => by
      conv => rhs; rw [← List.map_id m]
      refine List.map_congr_left fun x hx => ?_
      have := hm x hx
      simp; omega
    rwa [e l hl, e k hk] at this
  · rintro rfl; rfl
theorem u8_lt {a b : Nat} (ha : a < 256) (hb : b < 256) : (UInt8.ofNat a < UInt8.ofNat b) ↔ a < b := by
  rw [UInt8.lt_iff_toNat_lt]
  simp; omega
theorem u8_eq {a b : Nat} (ha : a < 256) (hb : b < 256) : (UInt8.ofNat a = UInt8.ofNat b) ↔ a = b := by
  rw [← UInt8.toNat_inj]
  simp; omega
theorem strLt_ok : ∀ (l k : List Nat), (∀ x ∈ l, x < 256) → (∀ x ∈ k, x < 256) → Op.bytesLess (l.map UInt8.ofNat) (k.map UInt8.ofNat) = strLt l k
  | l, [], _, _ => by cases l <;> simp [Op.bytesLess, strLt]
  | [], y :: k, _, _ => by simp [Op.bytesLess, strLt]
  | x :: l, y :: k, hl, hk => by
    have hx := hl x (by simp)
    have hy := hk y (by simp)
    have ih := strLt_ok l k (fun z hz => hl z (by simp [hz])) (fun z hz => hk z (by simp [hz]))
    simp only [List.map_cons, Op.bytesLess, strLt, ih]
    congr 1
    · exact decide_eq_decide.2 (u8_lt hx hy)
    · congr 1
      rw [Bool.eq_iff_iff]
      simp [u8_eq hx hy]
theorem str_eq (l k : List Nat) (hl : ∀ x ∈ l, x < 256) (hk : ∀ x ∈ k, x < 256) : ((⟨(l.map UInt8.ofNat).toArray⟩ : ByteArray).toList == (⟨(k.map UInt8.ofNat).toArray⟩ : ByteArray).toList) = decide (l = k) := by
  rw [ByteArray.toList_eq, ByteArray.toList_eq, Bool.eq_iff_iff]
  simp [map_ofNat_inj hl hk]
theorem iop_ok {op : BinOp} {k j : IntKind} {x y : Int} {t : TypeId} {v : AV} (h : iop op k x y = some v) (hk : (decide (k = j) || isShift op) = true) : ∃ v', (binOp op t (.int k x) (.int j y)).run P w = .ok v' w ∧ VR ρ v v' := by
  have hk2 : isShift op = false → k = j := fun h => by rw [h] at hk; simpa using hk
  cases op <;> simp only [iop, Option.some.injEq] at h
  case shl =>
    split at h
    · cases h
    · rename_i hy
      cases h
      exact ⟨_, by simp [binOp, Op.shift, hy], .int _ _⟩
  case shr =>
    split at h
    · cases h
    · rename_i hy
      cases h
      exact ⟨_, by simp [binOp, Op.shift, hy], .int _ _⟩
  case quo =>
    split at h
    · cases h
    · rename_i hy
      cases h
      have := hk2 rfl
      subst this
      exact ⟨_, by simp [binOp, Op.intDiv, hy], .int _ _⟩
  case rem =>
    split at h
    · cases h
    · rename_i hy
      cases h
      have := hk2 rfl
      subst this
      exact ⟨_, by simp [binOp, Op.intDiv, hy], .int _ _⟩
  all_goals
    have := hk2 rfl
    subst this
    subst h
    first
    | exact ⟨_, rfl, .int _ _⟩
    | exact ⟨_, rfl, .bool _⟩
    | (refine ⟨_, ?_, .int _ _⟩; simp only [binOp, ne_eq, not_true_eq_false, if_false]; rfl)
    | (refine ⟨_, ?_, .bool _⟩; simp only [binOp, ne_eq, not_true_eq_false, if_false]; rfl)
theorem sop_ok {op : BinOp} {x y : List Nat} {t : TypeId} {v : AV} (h : sop op x y = some v) (hx : ∀ z ∈ x, z < 256) (hy : ∀ z ∈ y, z < 256) :
    ∃ v', (binOp op t (.string ⟨(x.map UInt8.ofNat).toArray⟩) (.string ⟨(y.map UInt8.ofNat).toArray⟩)).run P w = .ok v' w ∧ VR ρ v v' := by
  have he := str_eq x y hx hy
  have hl : Op.bytesLess (⟨(x.map UInt8.ofNat).toArray⟩ : ByteArray).toList (⟨(y.map UInt8.ofNat).toArray⟩ : ByteArray).toList = strLt x y := by
    rw [ByteArray.toList_eq, ByteArray.toList_eq]; exact strLt_ok x y hx hy
  cases op <;> simp only [sop, Option.some.injEq, reduceCtorEq] at h
  case add =>
    split at h
    · rename_i hlen
      cases h
      refine ⟨.string (⟨(x.map UInt8.ofNat).toArray⟩ ++ ⟨(y.map UInt8.ofNat).toArray⟩), ?_, ?_⟩
      · have : ¬ (((⟨(x.map UInt8.ofNat).toArray⟩ : ByteArray).size + (⟨(y.map UInt8.ofNat).toArray⟩ : ByteArray).size : Nat) : Int) > IntKind.i64.max := by
          have h1 : (⟨(x.map UInt8.ofNat).toArray⟩ : ByteArray).size = x.length := by simp [ByteArray.size]
          have h2 : (⟨(y.map UInt8.ofNat).toArray⟩ : ByteArray).size = y.length := by simp [ByteArray.size]
          rw [h1, h2]
          have : IntKind.i64.max = 9223372036854775807 := by decide
          rw [this]
          omega
        simp only [binOp, Op.stringOp, if_neg this]
        rfl
      · have e : (⟨(x.map UInt8.ofNat).toArray⟩ : ByteArray) ++ ⟨(y.map UInt8.ofNat).toArray⟩ = ⟨((x ++ y).map UInt8.ofNat).toArray⟩ := by
          apply ByteArray.ext
          rw [ByteArray.data_append]
          simp
        rw [e]
        exact .str _ (fun z hz => by
          rcases List.mem_append.1 hz with h | h
          · exact hx z h
          · exact hy z h)
    · cases h
  all_goals
    subst h
    exact ⟨_, by simp only [binOp, Op.stringOp, he, hl, Sem.run_pure], .bool _⟩
theorem equal_run {t : TypeId} {d : TypeDesc} (hd : P.underlying t = some d) (x y : Value) : (Op.equal t x y).run P w = ((match d, x, y with
      | .bool, .bool a, .bool b => .ok (a == b) w
      | .pointer _, .pointer none, .pointer b => .ok b.isNone w
      | .pointer _, .pointer _, .pointer none => .ok false w
      | .interface _, .nilIface, .nilIface => .ok true w
      | .interface _, .nilIface, .iface _ _ => .ok false w
      | .interface _, .iface _ _, .nilIface => .ok false w
      | .slice _, .slice none _ _, .slice b _ _ => .ok b.isNone w
      | .slice _, .slice _ _ _, .slice none _ _ => .ok false w
      | .map _ _, .map none, .map b => .ok b.isNone w
      | .map _ _, .map _, .map none => .ok false w
      | .func _ _ _, .nilFunc, .nilFunc => .ok true w
      | .func _ _ _, .nilFunc, .func _ _ _ => .ok false w
      | .func _ _ _, .func _ _ _, .nilFunc => .ok false w
      | _, _, _ => (Op.equal t x y).run P w) : Result Bool) := by
  split <;> first | rfl | skip
  all_goals
    show (Op.equalIn (9999 + 1) t _ _).run P w = _
    unfold Op.equalIn
    rw [Sem.run_bind, run_underlying (by assumption)]
    try rfl
  all_goals
    first
    | (cases ‹Option Addr› <;> first | rfl | (exfalso; simp_all; done))
    | (cases ‹Option Nat› <;> first | rfl | (exfalso; simp_all; done))
theorem eqT_ok {d : TypeDesc} {known : Bool} {t : TypeId} {x y : AV} {x' y' : Value} {b : Bool} (h : eqT d known x y = some b) (hd : P.underlying t = some d) (hx : VR ρ x x') (hy : VR ρ y y') : (Op.equal t x' y').run P w = .ok b w := by
  rw [equal_run hd]
  unfold eqT at h
  split at h
  case h_4 =>
    split at h
    · cases hx; cases hy; cases h; rfl
    · cases h
  all_goals first | (cases h; done) | skip
  all_goals
    cases hx
    cases hy
    cases h
    rfl
theorem ite_both {α : Type} {c : Prop} [Decidable c] {x y r : α} (h1 : c → x = r) (h2 : ¬ c → y = r) : (if c then x else y) = r := by
  by_cases h : c
  · rw [if_pos h]; exact h1 h
  · rw [if_neg h]; exact h2 h
theorem guard_plain {op : BinOp} {t : TypeId} {X Y : Operand} {x' y' : Value} (ha : ∀ a b, ¬ (x' = .agg a ∧ y' = .agg b)) (hn : ¬ (x' = .nilIface ∧ y' = .nilIface)) : (eqGuard op t X Y x' y').run P w = .ok () w := by
  unfold eqGuard
  simp only [Sem.run_ite, Sem.run_pure]
  refine ite_both (fun _ => rfl) (fun _ => ?_)
  split
  · exact absurd ⟨rfl, rfl⟩ hn
  · exact absurd ⟨rfl, rfl⟩ (ha _ _)
  · rfl
theorem guard_known {op : BinOp} {t : TypeId} {X Y : Operand} (h : (isConst X || isConst Y) = true) : (eqGuard op t X Y .nilIface .nilIface).run P w = .ok () w := by
  unfold eqGuard
  simp only [Sem.run_bind, Sem.run_ite, Sem.run_pure]
  refine ite_both (fun _ => rfl) (fun _ => ?_)
  cases X <;> cases Y <;> first | (simp [isConst] at h; done) | rfl | (simp; done)
theorem eqT_guard {d : TypeDesc} {op : BinOp} {t : TypeId} {X Y : Operand} {x y : AV} {x' y' : Value} {b : Bool} (h : eqT d (isConst X || isConst Y) x y = some b) (hx : VR ρ x x') (hy : VR ρ y y') : (eqGuard op t X Y x' y').run P w = .ok () w := by
  unfold eqT at h
  split at h
  case h_4 =>
    split at h
    · rename_i hk
      cases hx; cases hy
      exact guard_known hk
    · cases h
  all_goals first | (cases h; done) | skip
  all_goals
    cases hx
    cases hy
    exact guard_plain (fun a b h => by cases h.1) (fun h => by first | (cases h.1; done) | (cases h.2; done))
theorem part_cell {t : TypeId} {d : TypeDesc} {xs : Array Value} {i : Nat} {v : Value} (hd : P.underlying t = some d) (ha : aggD d = false) (hv : xs[i]? = some v) (w : World) : (part t xs i).run P w = .ok v w := by
  have h1 : (isAgg t).run P w = .ok false w := by
    unfold isAgg
    rw [Sem.run_bind, run_underlying hd]
    cases d <;> first | rfl | cases ha
  simp [part, h1, hv]
theorem cellOk_agg {d : TypeDesc} {x : AV} (h : cellOk d x = true) : aggD d = false := by
  cases d <;> first | rfl | (cases x <;> cases h)
theorem cellEq_ok {d : TypeDesc} {t : TypeId} {n : Nat} {x y : AV} {x' y' : Value} {b : Bool} (hd : P.underlying t = some d) (hk : cellOk d x = true) (h : cellEq x y = some b) (hx : VR ρ x x') (hy : VR ρ y y') (w : World) :
    (Op.equalIn (n + 1) t x' y').run P w = .ok b w ∧ Instr.sameNow d x' y' = some b ∧ (b = true → y' = x') := by
  unfold cellEq at h
  split at h
  · rename_i l m
    cases h
    cases hx with
    | str _ hl => cases hy with
      | str _ hm =>
        have hs : d = .string := by cases d <;> first | rfl | cases hk
        subst hs
        refine ⟨by rw [run_equalIn_string _ _ _ _ _ hd, str_eq _ _ hl hm], ?_, fun h => by rw [of_decide_eq_true h]⟩
        show some _ = some _
        rw [beq_toListBytes, str_eq _ _ hl hm]
  · rename_i k a j c
    cases hx; cases hy
    split at h
    · rename_i hkj
      subst hkj
      cases h
      have hs : ∃ q, d = .int q := by cases d <;> first | exact ⟨_, rfl⟩ | cases hk
      obtain ⟨q, rfl⟩ := hs
      exact ⟨run_equalIn_int _ _ _ _ _ _ _ hd, by simp [Instr.sameNow], fun h => by rw [eq_of_beq h]⟩
    · cases h
  · rename_i a c
    cases hx; cases hy
    cases h
    have hs : d = .bool := by cases d <;> first | rfl | cases hk
    subst hs
    exact ⟨run_equalIn_bool' _ _ _ _ _ hd, by simp [Instr.sameNow], fun h => by rw [eq_of_beq h]⟩
  · cases h
theorem cellsEq_ok {n : Nat} {xs ys : Array Value} (w : World) : ∀ {fs : List Field} {cs ds : List AV} {i : Nat} {b : Bool} {cs' ds' : List Value}, cellsOk P fs cs i = true → cellsEq cs ds = some b → VRL ρ cs cs' → VRL ρ ds ds' →
    (∀ j v, cs'[j]? = some v → xs[i + j]? = some v) → (∀ j v, ds'[j]? = some v → ys[i + j]? = some v) → (Op.eqFields (n + 1) xs ys fs).run P w = .ok b w ∧ (b = true → ds' = cs')
  | [], [], ds, i, b, cs', ds', hk, h, hx, hy, h1, h2 => by
    cases hx
    cases ds with
    | nil => cases hy; cases h; exact ⟨rfl, fun _ => rfl⟩
    | cons _ _ => cases h
  | [], _ :: _, ds, i, b, cs', ds', hk, h, hx, hy, h1, h2 => by cases hk
  | _ :: _, [], ds, i, b, cs', ds', hk, h, hx, hy, h1, h2 => by cases hk
  | f :: fs, c :: cs, ds, i, b, cs', ds', hk, h, hx, hy, h1, h2 => by
    cases ds with
    | nil => cases h
    | cons d ds =>
      cases hx with
      | cons _ v _ vs g1 g2 => cases hy with
        | cons _ u _ us q1 q2 =>
          simp only [cellsOk, Bool.and_eq_true, bne_iff_ne, ne_eq, decide_eq_true_eq] at hk
          obtain ⟨⟨⟨k1, k2⟩, k3⟩, k4⟩ := hk
          cases hu : P.underlying f.type with
          | none => rw [hu] at k3; cases k3
          | some e =>
            rw [hu] at k3
            have p1 := part_cell hu (cellOk_agg k3) (h1 0 v rfl) w
            have p2 := part_cell hu (cellOk_agg k3) (h2 0 u rfl) w
            rw [Nat.add_zero] at p1 p2
            unfold cellsEq at h
            cases hc : cellEq c d with
            | none => rw [hc] at h; cases h
            | some b0 =>
              rw [hc] at h
              obtain ⟨r1, _, r2⟩ := cellEq_ok (n := n) hu k3 hc g1 q1 w
              cases b0 with
              | false =>
                cases h
                refine ⟨?_, fun h => by cases h⟩
                unfold Op.eqFields
                rw [if_pos k1, k2]
                simp only [Sem.run_bind, p1, p2, Result.andThen_ok, r1]
                rfl
              | true =>
                obtain ⟨e1, e2⟩ := cellsEq_ok w k4 h g2 q2 (fun j v hv => by rw [show i + 1 + j = i + (j + 1) by omega]; exact h1 (j + 1) v (by simpa using hv)) (fun j v hv => by rw [show i + 1 + j = i + (j + 1) by omega]; exact h2 (j + 1) v (by simpa using hv))
                refine ⟨?_, fun h => by rw [r2 rfl, e2 h]⟩
                unfold Op.eqFields
                rw [if_pos k1, k2]
                simp only [Sem.run_bind, p1, p2, Result.andThen_ok, r1]
                exact e1
theorem run_structEq {t : TypeId} {fs : Array Field} {cs ds : List AV} {xs ys : Array Value} {b : Bool} {n : Nat} (hu : P.underlying t = some (.struct fs)) (hs : P.stoodInHeld t = false) (hk : cellsOk P fs.toList cs 0 = true) (h : cellsEq cs ds = some b) (hx : VRL ρ cs xs.toList) (hy : VRL ρ ds ys.toList) (w : World) :
    (Op.equalIn (n + 2) t (.agg xs) (.agg ys)).run P w = .ok b w ∧ (b = true → ys = xs) := by
  have hf : P.fieldsOf t = fs := by simp [Program.fieldsOf, hu]
  obtain ⟨h1, h2⟩ := cellsEq_ok (n := n) (xs := xs) (ys := ys) w hk h hx hy (fun j v hv => by simpa using hv) (fun j v hv => by simpa using hv)
  refine ⟨?_, fun h => Array.ext' (h2 h)⟩
  rw [run_equalIn_struct w (n + 1) t xs ys (by rw [hf]; exact hu) hs, hf]
  exact h1
theorem takeN_len : ∀ {n : Nat} {l r : List AV}, takeN n l = some r → r = l.take n ∧ n ≤ l.length
  | 0, l, r, h => by simp [takeN] at h; subst h; simp
  | n + 1, x :: l, r, h => by
    unfold takeN at h
    split at h
    · rename_i r' hr
      cases h
      obtain ⟨h1, h2⟩ := takeN_len hr
      subst h1
      simpa using h2
    · cases h
  | n + 1, [], r, h => by simp [takeN] at h
theorem cutL_ok {cs r : List AV} {off n : Nat} (h : cutL cs off n = some r) : r = (cs.drop off).take n ∧ (n = 0 ∨ off + n ≤ cs.length) := by
  obtain ⟨h1, h2⟩ := takeN_len h
  refine ⟨h1, ?_⟩
  rw [List.length_drop] at h2
  omega
theorem VRL.aget {ρ : Env} {l : List AV} {a : Array Value} {i : Nat} {x : AV} (h : VRL ρ l a.toList) (hx : l[i]? = some x) : ∃ v, a[i]? = some v ∧ VR ρ x v := by
  have := h.get i hx
  simpa using this
theorem cutL_vr {cs r : List AV} {off n : Nat} {c : Array Value} (h : cutL cs off n = some r) (hc : VRL ρ cs c.toList) : VRL ρ r (c.extract off (off + n)).toList := by
  obtain ⟨h1, h2⟩ := cutL_ok h
  subst h1
  have : (c.extract off (off + n)).toList = (c.toList.drop off).take n := by
    rw [Array.toList_extract, List.extract_eq_take_drop]
    congr 1
    omega
  rw [this]
  exact (hc.drop off).take n
theorem part_ok {t : TypeId} {cs : List AV} {c : Array Value} {off : Nat} {v : AV} (h : partA P t cs off = some v) (hc : VRL ρ cs c.toList) : ∃ v', (part t c off).run P w = .ok v' w ∧ VR ρ v v' := by
  unfold partA at h
  split at h
  · rename_i n ha hs
    split at h
    · rename_i l hl
      cases h
      exact ⟨.agg (c.extract off (off + n)), by simp [part, run_agg ha, run_szOf hs], .agg _ _ (cutL_vr hl hc)⟩
    · cases h
  · rename_i ha
    obtain ⟨v', h1, h2⟩ := hc.aget h
    exact ⟨v', by simp [part, run_agg ha, h1], h2⟩
  · cases h
theorem eqFs_ok {E : TypeId → AV → AV → Option Bool} {n : Nat} (hE : ∀ {t x y b x' y'} (w : World), E t x y = some b → VR ρ x x' → VR ρ y y' → (Op.equalIn n t x' y').run P w = .ok b w) {cs ds : List AV} {xs ys : Array Value} (hx : VRL ρ cs xs.toList) (hy : VRL ρ ds ys.toList) (w : World) :
    ∀ {fs : List Field} {b : Bool}, eqFs P E fs cs ds = some b → (Op.eqFields n xs ys fs).run P w = .ok b w
  | [], b, h => by cases h; rfl
  | f :: fs, b, h => by
    unfold eqFs at h
    split at h
    · rename_i hn
      split at h
      · rename_i a c ha hc
        obtain ⟨a', p1, v1⟩ := part_ok (w := w) ha hx
        obtain ⟨c', p2, v2⟩ := part_ok (w := w) hc hy
        have hn' : f.name ≠ "_" := by simpa using hn
        unfold Op.eqFields
        rw [if_pos hn']
        cases he : E f.type a c with
        | none => rw [he] at h; cases h
        | some r =>
          have h3 := hE w he v1 v2
          simp only [Sem.run_bind, p1, p2, Result.andThen_ok, h3]
          rw [he] at h
          cases r with
          | true => exact eqFs_ok hE hx hy w h
          | false => cases h; rfl
      · cases h
    · cases h
theorem eqD_ok : ∀ (d : Nat) {t : TypeId} {x y : AV} {x' y' : Value} {b : Bool} (w : World) (n : Nat), eqD P d t x y = some b → VR ρ x x' → VR ρ y y' → (Op.equalIn (n + d) t x' y').run P w = .ok b w
  | 0, t, x, y, x', y', b, w, n, h, hx, hy => by cases h
  | d + 1, t, x, y, x', y', b, w, n, h, hx, hy => by
    unfold eqD at h
    split at h
    · rename_i fs cs ds hu
      split at h
      · cases h
      · rename_i hs
        have hf : P.fieldsOf t = fs := by simp [Program.fieldsOf, hu]
        cases hx with
        | agg _ xs hx1 => cases hy with
          | agg _ ys hy1 =>
            rw [show n + (d + 1) = (n + d) + 1 by omega, run_equalIn_struct w (n + d) t xs ys (by rw [hf]; exact hu) (by simpa using hs), hf]
            exact eqFs_ok (fun w he h1 h2 => eqD_ok d w n he h1 h2) hx1 hy1 w h
    · rename_i hu hng
      split at h
      · rename_i hk
        exact (cellEq_ok (n := n + d) hu hk h hx hy w).1
      · cases h
    · cases h
theorem eqS_ok {t : TypeId} {d : TypeDesc} {x y : AV} {x' y' : Value} {b : Bool} (h : eqS P t d x y = some b) (hd : P.underlying t = some d) (hx : VR ρ x x') (hy : VR ρ y y') (op : BinOp) (X Y : Operand) (w : World) :
    ∃ xs ys, x' = .agg xs ∧ y' = .agg ys ∧ (eqGuard op t X Y x' y').run P w = .ok () w ∧ (Op.equalIn 10000 t (.agg xs) (.agg ys)).run P w = .ok b w := by
  unfold eqS at h
  split at h
  · split at h
    · rename_i hg
      simp only [Bool.not_eq_true'] at hg
      have := fun x' y' => eqD_ok (P := P) (ρ := ρ) 5 (x' := x') (y' := y') w 9995 h
      cases hx with
      | agg _ xs hx1 => cases hy with
        | agg _ ys hy1 => exact ⟨xs, ys, rfl, rfl, run_eqGuard_agg w op t X Y xs ys hg, this _ _ (.agg _ _ hx1) (.agg _ _ hy1)⟩
    · cases h
  · cases h
theorem bop_ok {op : BinOp} {t : TypeId} {X Y : Operand} {x y : AV} {x' y' : Value} {v : AV} (h : bop P t op (P.underlying t) (isConst X || isConst Y) x y = some v) (hx : VR ρ x x') (hy : VR ρ y y') :
    ∃ v', (do eqGuard op t X Y x' y'; binOp op t x' y' : Sem Value).run P w = .ok v' w ∧ VR ρ v v' := by
  unfold bop at h
  split at h
  · rename_i k a j c
    cases hx; cases hy
    split at h
    · rename_i hk
      obtain ⟨v', h1, h2⟩ := iop_ok (P := P) (ρ := ρ) (w := w) (t := t) h hk
      refine ⟨v', ?_, h2⟩
      have := guard_plain (P := P) (w := w) (op := op) (t := t) (X := X) (Y := Y) (x' := .int k a) (y' := .int j c) (fun a b h => by cases h.1) (fun h => by cases h.1)
      simp [this, h1]
    · cases h
  · rename_i l m
    cases hx with
    | str _ hl => cases hy with
      | str _ hm =>
        obtain ⟨v', h1, h2⟩ := sop_ok (P := P) (ρ := ρ) (w := w) (t := t) h hl hm
        refine ⟨v', ?_, h2⟩
        have := guard_plain (P := P) (w := w) (op := op) (t := t) (X := X) (Y := Y) (x' := .string ⟨(l.map UInt8.ofNat).toArray⟩) (y' := .string ⟨(m.map UInt8.ofNat).toArray⟩) (fun a b h => by cases h.1) (fun h => by cases h.1)
        simp [this, h1]
  · rename_i a b
    split at h
    · rename_i hab
      subst hab
      cases hx with
      | any _ r hr => cases hy with
        | any _ r' hr' =>
          rw [hr] at hr'
          injection hr' with e
          subst e
          have hi : iop op .i64 (r.n : Int) (r.n : Int) = some v := by
            cases op <;> simp only [reduceCtorEq] at h <;> cases h <;> simp [iop]
          obtain ⟨v', h1, h2⟩ := iop_ok (P := P) (ρ := ρ) (w := w) (t := t) (j := .i64) hi (by simp)
          refine ⟨v', ?_, h2⟩
          have := guard_plain (P := P) (w := w) (op := op) (t := t) (X := X) (Y := Y) (x' := .int .i64 (r.n : Int)) (y' := .int .i64 (r.n : Int)) (fun a b h => by cases h.1) (fun h => by cases h.1)
          simp [this, h1]
    · cases h
  · rename_i n1 n2 n3
    cases hd : P.underlying t with
    | none => rw [hd] at h; cases op <;> simp at h
    | some d =>
      rw [hd] at h
      have hni : ∀ {b}, eqT d (isConst X || isConst Y) x y = some b → (∀ k a, x' ≠ .int k a) ∧ (∀ a, x' ≠ .string a) ∧ (∀ k a, x' ≠ .float k a) ∧ (∀ k a b, x' ≠ .complex k a b) := by
        intro b hb
        unfold eqT at hb
        split at hb <;> first | (cases hb; done) | skip
        all_goals
          cases hx
          simp
      cases op <;> simp only [reduceCtorEq] at h
      case eql =>
        split at h
        · rename_i b hb
          cases h
          obtain ⟨h1, h2, h3, h4⟩ := hni hb
          refine ⟨.bool b, ?_, .bool _⟩
          simp only [Sem.run_bind, eqT_guard hb hx hy, Result.andThen_ok]
          have he := eqT_ok (w := w) hb hd hx hy
          unfold binOp
          split <;> first | (exact absurd rfl (h1 _ _)) | (exact absurd rfl (h2 _)) | (exact absurd rfl (h3 _ _)) | (exact absurd rfl (h4 _ _ _)) | (simp_all; done) | skip
        · split at h
          · rename_i b hb
            cases h
            obtain ⟨xs, ys, rfl, rfl, h1, h2⟩ := eqS_ok (P := P) hb hd hx hy .eql X Y w
            refine ⟨.bool b, ?_, .bool _⟩
            simp only [Sem.run_bind, h1, Result.andThen_ok, run_eql_struct, h2]
          · cases h
      case neq =>
        split at h
        · rename_i b hb
          cases h
          obtain ⟨h1, h2, h3, h4⟩ := hni hb
          refine ⟨.bool !b, ?_, .bool _⟩
          simp only [Sem.run_bind, eqT_guard hb hx hy, Result.andThen_ok]
          have he := eqT_ok (w := w) hb hd hx hy
          unfold binOp
          split <;> first | (exact absurd rfl (h1 _ _)) | (exact absurd rfl (h2 _)) | (exact absurd rfl (h3 _ _)) | (exact absurd rfl (h4 _ _ _)) | (simp_all; done) | skip
        · split at h
          · rename_i b hb
            cases h
            obtain ⟨xs, ys, rfl, rfl, h1, h2⟩ := eqS_ok (P := P) hb hd hx hy .neq X Y w
            refine ⟨.bool !b, ?_, .bool _⟩
            simp only [Sem.run_bind, h1, Result.andThen_ok, run_neq_struct, h2]
          · cases h
theorem uop_ok {op : UnOp} {x : AV} {x' : Value} {v : AV} (h : uop op x = some v) (hx : VR ρ x x') : ∃ v', (Op.unary op x').run P w = .ok v' w ∧ VR ρ v v' := by
  unfold uop at h
  split at h
  · cases hx; cases h; exact ⟨_, by simp [Op.unary, Op.intArith], .int _ _⟩
  · cases hx; cases h; exact ⟨_, by simp [Op.unary, Op.intBits], .int _ _⟩
  · cases hx; cases h; exact ⟨_, by simp [Op.unary], .bool _⟩
  · cases h
end
end Go.Proofs.YtmabpnmnppfgaaaGreatDoor.Rk
namespace Go.Proofs.YtmabpnmnppfgaaaGreatDoor.Rk
open Go
set_option linter.unusedVariables false
theorem RB.at_add (r : RB) (off j : Nat) : (r.at off).add j = r.at (off + j) := by
  unfold RB.at Addr.add
  split
  · rename_i h; subst h; rfl
  · simp [Nat.add_assoc]
theorem cell_in {w : World} {B o : Nat} {c : Array Value} {t : TypeId} {fr : Nat × Nat} (h : w.heap[B]? = some (.cells c t fr)) : w.cell? ⟨B, o, none⟩ = c[o]? := by
  simp [World.cell?, h]
theorem setL_ok : ∀ {cs : List AV} {off : Nat} {vs r : List AV}, setL cs off vs = some r → r.length = cs.length ∧ (∀ i, r[i]? = if off ≤ i ∧ i < off + vs.length then vs[i - off]? else cs[i]?) ∧ (vs = [] ∨ off + vs.length ≤ cs.length)
  | cs, off, [], r, h => by
    simp [setL] at h
    subst h
    exact ⟨rfl, fun i => by rw [if_neg (by simp only [List.length_nil]; omega)], .inl rfl⟩
  | [], off, v :: vs, r, h => by cases off <;> simp [setL] at h
  | c :: cs, 0, v :: vs, r, h => by
    unfold setL at h
    split at h
    · rename_i r' hr
      cases h
      obtain ⟨h1, h2, h3⟩ := setL_ok hr
      have h4 : vs.length ≤ cs.length := by
        rcases h3 with h3 | h3
        · simp [h3]
        · omega
      refine ⟨by simp [h1], fun i => ?_, .inr (by simp; omega)⟩
      cases i with
      | zero => simp
      | succ i =>
        rw [List.getElem?_cons_succ, h2]
        by_cases hi : i < vs.length
        · rw [if_pos (by omega), if_pos (by simp; omega)]; simp
        · rw [if_neg (by omega), if_neg (by simp; omega)]; simp
    · cases h
  | c :: cs, off + 1, v :: vs, r, h => by
    unfold setL at h
    split at h
    · rename_i r' hr
      cases h
      obtain ⟨h1, h2, h3⟩ := setL_ok hr
      have h4 := h3.resolve_left (by simp)
      refine ⟨by simp [h1], fun i => ?_, .inr (by simp at h4 ⊢; omega)⟩
      cases i with
      | zero => simp
      | succ i =>
        rw [List.getElem?_cons_succ, h2]
        by_cases hi : off ≤ i ∧ i < off + (v :: vs).length
        · rw [if_pos hi, if_pos (by omega)]; congr 1; omega
        · rw [if_neg hi, if_neg (by omega)]; simp
    · cases h
section
variable {P : Program} {ρ : Env} {T : Nat → Nat → Prop} {s s' : St} {w w' : World}
theorem lt_n {b : Nat} {x : ABlk} (hw : WfS s) (h : s.heap.get b = some x) : b < s.n := by
  rcases Nat.lt_or_ge b s.n with h1 | h1
  · exact h1
  · rw [hw b h1] at h; cases h
theorem rd_mono {b off n : Nat} {cs : List AV} (h : rdCells s b off n = some (cs, s')) : s' = s.note (.rd b off n) ∧ Mono s s' := by
  unfold rdCells at h
  split at h
  · rename_i hb
    split at h
    · simp only [Option.some.injEq, Prod.mk.injEq] at h
      obtain ⟨_, rfl⟩ := h
      exact ⟨rfl, Mono.note _ _ ⟨_, hb, trivial⟩⟩
    · cases h
  · cases h
theorem rd_ok {b off n : Nat} {cs : List AV} {r : RB} (h : rdCells s b off n = some (cs, s')) (hp : Pre ρ T s s' w) (hr : ρ b = some r) :
    ∃ vs : List Value, vs.length = n ∧ VRL ρ cs vs ∧ ∀ j v, vs[j]? = some v → w.cell? ((r.at off).add j) = some v := by
  obtain ⟨he, _⟩ := rd_mono h
  unfold rdCells at h
  split at h
  · rename_i t cs0 hb
    split at h
    · rename_i l hl
      simp only [Option.some.injEq, Prod.mk.injEq] at h
      obtain ⟨rfl, rfl⟩ := h
      obtain ⟨h1, h2⟩ := cutL_ok hl
      by_cases hn : n = 0
      · subst hn
        exact ⟨[], rfl, by rw [h1]; exact .nil, fun j v hv => by simp at hv⟩
      · have h2 : off + n ≤ cs0.length := h2.resolve_left hn
        have hT : ∀ i, off ≤ i → i < off + n → T b i := fun i h3 h4 => hp.cov (.rd b off n) (by rw [he]; exact List.mem_cons_self ..) (lt_n hp.wf hb) b i ⟨rfl, h3, h4⟩
        obtain ⟨r0, c, fr, g1, g2, g3, g4, g5, g6⟩ := hp.good.sat b _ hb ⟨off, hT off (Nat.le_refl _) (by omega)⟩
        replace g4 := g4.1
        have : r0 = r := Option.some.inj (g1.symm.trans hr)
        subst this
        refine ⟨(c.toList.drop (r0.base + off)).take n, by simp; omega, ?_, fun j v hv => ?_⟩
        · rw [h1]
          refine VRL.of_get (by simp; omega) (fun i a v ha hv => ?_)
          have hi : i < n := by
            have := (List.getElem?_eq_some_iff.1 ha).1
            simp at this; omega
          rw [List.getElem?_take_of_lt hi, List.getElem?_drop] at ha hv
          obtain ⟨u, hu, hR⟩ := g6 (off + i) a ha (hT _ (by omega) (by omega))
          rw [← Array.getElem?_toList, ← Nat.add_assoc] at hu
          rw [hu] at hv
          cases hv
          exact hR
        · have hj : j < n := by
            have := (List.getElem?_eq_some_iff.1 hv).1
            simp at this; omega
          rw [List.getElem?_take_of_lt hj, List.getElem?_drop, Array.getElem?_toList] at hv
          rw [RB.at_add]
          unfold RB.at
          rw [cell_in g2, ← hv, Nat.add_assoc]
    · cases h
  · cases h
theorem run_cells {a : Addr} {vs : List Value} (h : ∀ j v, vs[j]? = some v → w.cell? (a.add j) = some v) : (loadCells a vs.length).run P w = .ok vs.toArray w := run_loadCells_list (P := P) (w := w) a vs h
def OK1 (P : Program) (m : Sem Value) (ρ : Env) (T : Nat → Nat → Prop) (s : St) (w : World) (v : AV) (s' : St) : Prop :=
  ∃ ρ' w' v', m.run P w = .ok v' w' ∧ Post ρ T s w ρ' s' w' ∧ VR ρ' v v'
theorem OK1.pure {m : Sem Value} {v : AV} {v' : Value} (hp : Pre ρ T s s w) (h : m.run P w = .ok v' w) (hv : VR ρ v v') : OK1 P m ρ T s w v s :=
  ⟨ρ, w, v', h, Post.same hp.good rfl rfl (Still.refl w), hv⟩
theorem opLoad_mono {t : TypeId} {x v : AV} (h : opLoad P t x s = some (v, s')) : Mono s s' := by
  unfold opLoad at h
  split at h
  · split at h
    · rename_i hr
      cases h
      exact (rd_mono hr).2
    · cases h
  · split at h
    · rename_i hr
      cases h
      exact (rd_mono hr).2
    · cases h
  · cases h
theorem opLoad_ok {t : TypeId} {x v : AV} {x' : Value} (h : opLoad P t x s = some (v, s')) (hp : Pre ρ T s s' w) (hx : VR ρ x x') : OK1 P (Instr.loadAt t x') ρ T s w v s' := by
  unfold opLoad at h
  split at h
  · rename_i b off n ha hs
    split at h
    · rename_i cs s1 hr
      simp only [Option.some.injEq, Prod.mk.injEq] at h
      obtain ⟨rfl, rfl⟩ := h
      cases hx with
      | ptr b off r hb =>
        obtain ⟨vs, h1, h2, h3⟩ := rd_ok hr hp hb
        obtain ⟨e, _⟩ := rd_mono hr
        subst h1
        refine ⟨ρ, w, .agg vs.toArray, ?_, Post.same hp.good (by rw [e]; rfl) (by rw [e]; rfl) (Still.refl w), .agg _ _ (by simpa using h2)⟩
        simp [Instr.loadAt, Instr.sureAddr, loadVar, run_agg ha, run_szOf hs, run_cells h3]
    · cases h
  · rename_i b off ha
    split at h
    · rename_i v1 s1 hr
      simp only [Option.some.injEq, Prod.mk.injEq] at h
      obtain ⟨rfl, rfl⟩ := h
      cases hx with
      | ptr b off r hb =>
        obtain ⟨vs, h1, h2, h3⟩ := rd_ok hr hp hb
        obtain ⟨e, _⟩ := rd_mono hr
        match vs, h1 with
        | [u], _ =>
          cases h2 with
          | cons _ _ _ _ hv _ =>
            have hc := h3 0 u rfl
            rw [RB.at_add, Nat.add_zero] at hc
            refine ⟨ρ, w, u, ?_, Post.same hp.good (by rw [e]; rfl) (by rw [e]; rfl) (Still.refl w), hv⟩
            simp [Instr.loadAt, Instr.sureAddr, loadVar, run_agg ha, hc]
    · cases h
  · cases h
theorem heap_modify {w : World} {B : Nat} {c : Array Value} {t : TypeId} {fr : Nat × Nat} (h : w.heap[B]? = some (.cells c t fr)) (o : Nat) (v : Value) :
    (w.setCell ⟨B, o, none⟩ v).heap[B]? = some (.cells (c.setIfInBounds o v) t fr) ∧ (∀ B', B' ≠ B → (w.setCell ⟨B, o, none⟩ v).heap[B']? = w.heap[B']?) ∧ (w.setCell ⟨B, o, none⟩ v).heap.size = w.heap.size := by
  refine ⟨?_, fun B' hB => ?_, ?_⟩
  · simp [World.setCell, Array.getElem?_modify, h]
  · simp [World.setCell, Array.getElem?_modify, Ne.symm hB]
  · simp [World.setCell]
theorem run_stores {B o : Nat} {t : TypeId} {fr : Nat × Nat} : ∀ (vs : List Value) (i : Nat) (c : Array Value) (w : World), w.heap[B]? = some (.cells c t fr) → (∀ v ∈ vs, v.oneCell' = true) → o + i + vs.length ≤ c.size →
    (∀ j, o + i ≤ j → j < c.size → (decide (fr.1 ≤ j) && decide (j < fr.2)) = false) → ∃ c' w', (storeCells ⟨B, o, none⟩ vs i).run P w = .ok () w' ∧ w'.heap[B]? = some (.cells c' t fr) ∧ c'.size = c.size ∧
      (∀ j, c'[j]? = if o + i ≤ j ∧ j < o + i + vs.length then vs[j - (o + i)]? else c[j]?) ∧ (∀ B', B' ≠ B → w'.heap[B']? = w.heap[B']?) ∧ w'.heap.size = w.heap.size ∧ w'.os = w.os ∧ w'.tape = w.tape ∧ w'.output = w.output
  | [], i, c, w, h, _, _, _ => ⟨c, w, rfl, h, rfl, fun j => by rw [if_neg (by simp only [List.length_nil]; omega)], fun _ _ => rfl, rfl, rfl, rfl, rfl⟩
  | v :: vs, i, c, w, h, ho, hs, hf => by
    simp only [List.length_cons] at hs
    have ha : (⟨B, o, none⟩ : Addr).add i = ⟨B, o + i, none⟩ := by
      unfold Addr.add; split
      · rename_i h0; subst h0; rfl
      · rfl
    have hc : ∃ u, w.cell? ⟨B, o + i, none⟩ = some u := by rw [cell_in h]; exact ⟨_, Array.getElem?_eq_getElem (by omega)⟩
    have hz : w.frozen? ⟨B, o + i, none⟩ = false := by
      simp only [World.frozen?, h]
      have := hf (o + i) (Nat.le_refl _) (by omega)
      simpa using this
    obtain ⟨u, hu⟩ := hc
    obtain ⟨m1, m2, m3⟩ := heap_modify h (o + i) v
    obtain ⟨c', w', g1, g2, g3, g4, g5, g6, g7, g8, g9⟩ := run_stores (B := B) (o := o) vs (i + 1) (c.setIfInBounds (o + i) v) (w.setCell ⟨B, o + i, none⟩ v) m1 (fun x hx => ho x (List.mem_cons_of_mem _ hx)) (by simp; omega) (fun j h1 h2 => hf j (by omega) (by simpa using h2))
    refine ⟨c', w', ?_, g2, by rw [g3]; simp, fun j => ?_, fun B' hB => (g5 B' hB).trans (m2 B' hB), g6.trans m3, g7, g8, g9⟩
    · unfold storeCells
      rw [Sem.run_bind, ha, run_store P w _ v .plain (ho v (List.mem_cons_self ..)), hu]
      simp only [hz, Bool.false_eq_true, if_false, Result.andThen_ok]
      exact g1
    · rw [g4]
      by_cases hj : o + (i + 1) ≤ j ∧ j < o + (i + 1) + vs.length
      · rw [if_pos hj, if_pos (by simp only [List.length_cons]; omega), show j - (o + i) = (j - (o + (i + 1))) + 1 by omega, List.getElem?_cons_succ]
      · rw [if_neg hj]
        by_cases hji : j = o + i
        · subst hji
          rw [if_pos (by simp only [List.length_cons]; omega), Nat.sub_self, List.getElem?_cons_zero, Array.getElem?_setIfInBounds, if_pos rfl, if_pos (by omega)]
        · rw [if_neg (by simp only [List.length_cons]; omega), Array.getElem?_setIfInBounds, if_neg (Ne.symm hji)]
theorem wr_mono {b off : Nat} {vs : List AV} (h : wrCells s b off vs = some s') : Mono s s' := by
  unfold wrCells at h
  split at h
  · rename_i hb
    split at h
    · split at h
      · rename_i hset
        cases h
        obtain ⟨h1, h2, _⟩ := setL_ok hset
        exact Mono.write _ _ hb h1 (fun i hi => by rw [h2, if_neg hi])
      · cases h
    · cases h
  · cases h
theorem VRL.ones {l : List AV} {vs : List Value} (h : VRL ρ l vs) (ho : l.all Rk.one = true) : ∀ v ∈ vs, v.oneCell' = true := by
  intro v hv
  obtain ⟨i, hi⟩ := List.getElem?_of_mem hv
  have hl := h.length
  have hil : i < l.length := by have := (List.getElem?_eq_some_iff.1 hi).1; omega
  obtain ⟨u, hu, hR⟩ := h.get i (List.getElem?_eq_getElem hil)
  rw [hi] at hu
  cases hu
  exact one_ok hR (List.all_eq_true.1 ho _ (List.getElem_mem hil))
theorem wr_ok {b off : Nat} {vs : List AV} {vs' : List Value} {r : RB} (h : wrCells s b off vs = some s') (hp : Pre ρ T s s' w) (hr : ρ b = some r) (hv : VRL ρ vs vs') :
    ∃ w', (storeCells (r.at off) vs').run P w = .ok () w' ∧ Post ρ T s w ρ s' w' := by
  unfold wrCells at h
  split at h
  · rename_i t cs hb
    split at h
    · rename_i hone
      split at h
      · rename_i cs' hset
        cases h
        simp only [Bool.and_eq_true, Bool.not_eq_true', List.isEmpty_eq_false_iff] at hone
        obtain ⟨h1, h2, h3⟩ := setL_ok hset
        have h3 := h3.resolve_left hone.2
        have hlen := hv.length
        have hpos : 0 < vs.length := List.length_pos_iff.2 hone.2
        have hT : ∀ i, off ≤ i → i < off + vs.length → T b i := fun i h4 h5 => hp.cov (.wr b off vs.length) (List.mem_cons_self ..) (lt_n hp.wf hb) b i ⟨rfl, h4, h5⟩
        have hTb : ∃ i, T b i := ⟨off, hT off (Nat.le_refl _) (by omega)⟩
        obtain ⟨r0, c, fr, g1, g2, g3, g4, g5, g6⟩ := hp.good.sat b _ hb hTb
        replace g4 := g4.1
        have : r0 = r := Option.some.inj (g1.symm.trans hr)
        subst this
        obtain ⟨c', w', k1, k2, k3, k4, k5, k6, k7, k8, k9⟩ := run_stores (P := P) (o := r0.base + off) vs' 0 c w g2 (hv.ones hone.1) (by omega) (fun j h4 h5 => g5 j (by omega) h5)
        refine ⟨w', k1, Post.write (n := vs.length) hp.good hb hTb hr g2 ⟨k7, k8, k9, k6, k2, k5⟩ k3 (fun o ho => ?_) hpos h1 (fun i a ha hTi => ?_)⟩
        · rw [k4, if_neg (by omega)]
        · rw [h2] at ha
          rw [k4]
          by_cases hi : off ≤ i ∧ i < off + vs.length
          · rw [if_pos hi] at ha
            rw [if_pos (by omega), show r0.base + i - (r0.base + off + 0) = i - off by omega]
            exact hv.get _ ha
          · rw [if_neg hi] at ha
            rw [if_neg (by omega)]
            exact g6 i a ha hTi
      · cases h
    · cases h
  · cases h
theorem opStore_mono {t : TypeId} {x y : AV} (h : opStore P t x y s = some s') : Mono s s' := by
  unfold opStore at h
  split at h
  · split at h
    · split at h
      · cases h; exact Mono.refl _
      · exact wr_mono h
    · cases h
  · cases h
theorem opStore_ok {t : TypeId} {x y : AV} {x' y' : Value} (h : opStore P t x y s = some s') (hp : Pre ρ T s s' w) (hx : VR ρ x x') (hy : VR ρ y y') :
    ∃ w', (Instr.storeAt t x' y').run P w = .ok () w' ∧ Post ρ T s w ρ s' w' := by
  unfold opStore at h
  split at h
  · rename_i b off cs n hc hs
    split at h
    · rename_i hl
      cases hx with
      | ptr b off r hb =>
        have hv := cells_ok hy hc
        have hsz : y'.cells.size = n := by
          have := hv.length
          rw [Array.length_toList] at this
          omega
        split at h
        · rename_i hn0
          cases h
          refine ⟨w, ?_, Post.same hp.good rfl rfl (Still.refl w)⟩
          have he : y'.cells.toList = [] := List.length_eq_zero_iff.1 (by rw [Array.length_toList]; omega)
          simp [Instr.storeAt, Instr.sureAddr, storeVar, run_szOf hs, hsz, he, storeCells]
        · obtain ⟨w', h1, h2⟩ := wr_ok (P := P) h hp hb hv
          refine ⟨w', ?_, h2⟩
          simp [Instr.storeAt, Instr.sureAddr, storeVar, run_szOf hs, hsz, h1]
    · cases h
  · cases h
end
end Go.Proofs.YtmabpnmnppfgaaaGreatDoor.Rk
namespace Go.Proofs.YtmabpnmnppfgaaaGreatDoor.Rk
open Go
set_option linter.unusedVariables false
theorem foldl_set (off : Nat) : ∀ (l : List Value) (k : Nat) (arr : Array Value), off + k + l.length ≤ arr.size →
    ((l.zipIdx k).foldl (fun cs (x : Value × Nat) => cs.setIfInBounds (off + x.2) x.1) arr).size = arr.size ∧ ∀ i, ((l.zipIdx k).foldl (fun cs (x : Value × Nat) => cs.setIfInBounds (off + x.2) x.1) arr)[i]? = if off + k ≤ i ∧ i < off + k + l.length then l[i - (off + k)]? else arr[i]?
  | [], k, arr, h => by
    simp only [List.zipIdx_nil, List.foldl_nil]
    exact ⟨trivial, fun i => by rw [if_neg (by simp only [List.length_nil]; omega)]⟩
  | v :: l, k, arr, h => by
    simp only [List.length_cons] at h
    obtain ⟨h1, h2⟩ := foldl_set off l (k + 1) (arr.setIfInBounds (off + k) v) (by simp; omega)
    simp only [List.zipIdx_cons, List.foldl_cons]
    refine ⟨by rw [h1]; simp, fun i => ?_⟩
    rw [h2]
    by_cases hi : off + (k + 1) ≤ i ∧ i < off + (k + 1) + l.length
    · rw [if_pos hi, if_pos (by simp only [List.length_cons]; omega), show i - (off + k) = (i - (off + (k + 1))) + 1 by omega, List.getElem?_cons_succ]
    · rw [if_neg hi]
      by_cases hik : i = off + k
      · subst hik
        rw [if_pos (by simp only [List.length_cons]; omega), Nat.sub_self, List.getElem?_cons_zero, Array.getElem?_setIfInBounds, if_pos rfl, if_pos (by omega)]
      · rw [if_neg (by simp only [List.length_cons]; omega), Array.getElem?_setIfInBounds, if_neg (Ne.symm hik)]
theorem VRL.size {ρ : Env} {l : List AV} {a : Array Value} (h : VRL ρ l a.toList) : a.size = l.length := by
  have := h.length
  rwa [Array.length_toList] at this
inductive PR (ρ : Env) : List (Nat × AV) → List (Nat × Value) → Prop
  | nil : PR ρ [] []
  | cons (i : Nat) (x : AV) (v : Value) (l : List (Nat × AV)) (k : List (Nat × Value)) (h : VR ρ x v) (t : PR ρ l k) : PR ρ ((i, x) :: l) ((i, v) :: k)
theorem fill_ok {ρ : Env} {place : Nat → Option (Nat × Nat)} : ∀ {ps : List (Nat × AV)} {ps' : List (Nat × Value)} {cells r : List AV} {cells' : Array Value}, fillA place cells ps = some r → PR ρ ps ps' → VRL ρ cells cells'.toList →
    ∃ r', Instr.fill place cells' ps' = some r' ∧ VRL ρ r r'.toList
  | [], _, cells, r, cells', h, .nil, hc => by simp [fillA] at h; subst h; exact ⟨cells', rfl, hc⟩
  | (i, x) :: l, _, cells, r, cells', h, .cons _ _ v _ k hv ht, hc => by
    unfold fillA at h
    split at h
    · rename_i off size hpl
      split at h
      · rename_i c hcx
        split at h
        · rename_i hlen
          split at h
          · rename_i c2 hset
            obtain ⟨s1, s2, s3⟩ := setL_ok hset
            have hvc := cells_ok hv hcx
            have hsz := hvc.size
            have hcs := hc.size
            have s3 := s3.resolve_left (fun e => by subst e; simp at hlen; omega)
            have hb : off + v.cells.size ≤ cells'.size := by omega
            have hf := foldl_set off v.cells.toList 0 cells' (by simpa using hb)
            have hz : v.cells.zipIdx.foldl (fun cs (x : Value × Nat) => cs.setIfInBounds (off + x.2) x.1) cells' = (v.cells.toList.zipIdx 0).foldl (fun cs (x : Value × Nat) => cs.setIfInBounds (off + x.2) x.1) cells' := by
              rw [← Array.foldl_toList, Array.toList_zipIdx]
            have hvr : VRL ρ c2 (v.cells.zipIdx.foldl (fun cs (x : Value × Nat) => cs.setIfInBounds (off + x.2) x.1) cells').toList := by
              rw [hz]
              refine VRL.of_get (by rw [Array.length_toList, hf.1, s1, hcs]) (fun j a u ha hu => ?_)
              rw [Array.getElem?_toList, hf.2] at hu
              rw [s2] at ha
              by_cases hj : off ≤ j ∧ j < off + c.length
              · rw [if_pos hj] at ha
                rw [if_pos (by rw [Array.length_toList]; omega)] at hu
                obtain ⟨u', hu', hR⟩ := hvc.get _ ha
                rw [show j - (off + 0) = j - off by omega, hu'] at hu
                cases hu
                exact hR
              · rw [if_neg hj] at ha
                rw [if_neg (by rw [Array.length_toList]; omega)] at hu
                obtain ⟨u', hu', hR⟩ := hc.aget ha
                rw [hu'] at hu
                cases hu
                exact hR
            obtain ⟨r', h1, h2⟩ := fill_ok h ht hvr
            refine ⟨r', ?_, h2⟩
            unfold Instr.fill
            simp only [hpl]
            rw [if_neg (by simp only [Bool.or_eq_true, decide_eq_true_eq]; omega)]
            exact h1
          · cases h
        · cases h
      · cases h
    · cases h
theorem repL_get (z : List AV) : ∀ (n i : Nat), i < n * z.length → (repL z n)[i]? = z[i % z.length]?
  | 0, i, h => by simp at h
  | n + 1, i, h => by
    unfold repL
    rw [Nat.add_mul] at h
    by_cases hi : i < z.length
    · rw [List.getElem?_append_left hi, Nat.mod_eq_of_lt hi]
    · rw [List.getElem?_append_right (by omega), repL_get z n _ (by omega)]
      congr 1
      exact (Nat.mod_eq_sub_mod (by omega)).symm
theorem repL_len (z : List AV) : ∀ n : Nat, (repL z n).length = n * z.length
  | 0 => by simp [repL]
  | n + 1 => by unfold repL; rw [List.length_append, repL_len z n, Nat.add_mul]; omega
theorem repL_ok {ρ : Env} {z : List AV} {zero : Array Value} (h : VRL ρ z zero.toList) (hz : 0 < z.length) (n m : Nat) (hm : n ≤ m) (hs : zero.size = z.length) :
    ∀ (i : Nat) (a : AV), (repL z n)[i]? = some a → ∃ v, ((Array.range (m * z.length)).map (fun i => zero[i % zero.size]!))[i]? = some v ∧ VR ρ a v := by
  intro i a ha
  have hi : i < n * z.length := by
    have := (List.getElem?_eq_some_iff.1 ha).1
    rwa [repL_len] at this
  rw [repL_get z n i hi] at ha
  obtain ⟨v, hv, hR⟩ := h.aget ha
  have hle : n * z.length ≤ m * z.length := Nat.mul_le_mul_right _ hm
  refine ⟨v, ?_, hR⟩
  have hmod : i % zero.size < zero.size := Nat.mod_lt _ (by omega)
  rw [Array.getElem?_map, Array.getElem?_eq_getElem (by simp; omega)]
  simp only [Array.getElem_range, Option.map_some, Option.some.injEq]
  rw [hs] at hmod ⊢
  rw [getElem!_pos zero (i % z.length) (by omega)]
  rw [Array.getElem?_eq_getElem (by omega)] at hv
  exact Option.some.inj hv
section
variable {P : Program} {ρ : Env} {T : Nat → Nat → Prop} {s s' : St} {w w' : World}
theorem run_row (e : TypeId) (c : Array Value) (w : World) : (newRow e c).run P w = .ok ⟨w.heap.size, 0, none⟩ { w with heap := w.heap.push (.cells c e) } := rfl
theorem made_ok {e : TypeId} {cs : List AV} {c : Array Value} {fr : Nat × Nat} (hp : Pre ρ T s (s.new (.cells (2 * e) cs)) w) (hw : Add w w' (.cells c e fr)) (hfr : ∀ o, o < c.size → (decide (fr.1 ≤ o) && decide (o < fr.2)) = false) (hl : cs.length ≤ c.size)
    (hv : ∀ (i : Nat) (a : AV), cs[i]? = some a → ∃ v, c[i]? = some v ∧ VR ρ a v) : Post ρ T s w (ρ.add s.n ⟨w.heap.size, 0, c.size⟩) (s.new (.cells (2 * e) cs)) w' := by
  have hf : ρ s.n = none := hp.fresh s.n (Nat.le_refl _) (Nat.lt_succ_self _)
  refine Post.made hp.good hp.wf hf hp.tn hw rfl ⟨⟨w.heap.size, 0, c.size⟩, c, fr, Env.add_self _ _, (by rw [two_half]; exact hw.here), by simp, Fits.even e hl, fun o _ h => hfr o h, fun i a ha _ => ?_⟩
  obtain ⟨v, h1, h2⟩ := hv i a ha
  exact ⟨v, by simpa using h1, h2.mono (Env.add_le hf)⟩
theorem made_ptr1 {e : TypeId} {cs : List AV} {c : Array Value} {m : Sem Value} (hp : Pre ρ T s (s.new (.cells (2 * e + 1) cs)) w) (hm : m.run P w = .ok (.pointer (some ⟨w.heap.size, 0, none⟩)) { w with heap := w.heap.push (.cells c e) }) (hv : VRL ρ cs c.toList) : OK1 P m ρ T s w (.ptr s.n 0) (s.new (.cells (2 * e + 1) cs)) :=
  have hf : ρ s.n = none := hp.fresh s.n (Nat.le_refl _) (Nat.lt_succ_self _)
  ⟨_, _, _, hm, Post.made hp.good hp.wf hf hp.tn (Add.push w _) rfl ⟨⟨w.heap.size, 0, c.size⟩, c, (0, 0), Env.add_self _ _, (by rw [two_half1]; exact (Add.push w (.cells c e)).here), by simp, ⟨by rw [hv.size]; exact Nat.le_refl _, fun _ => ⟨rfl, hv.size⟩⟩, fun o _ h => by simp, fun i a ha _ => by
    obtain ⟨v, h1, h2⟩ := hv.aget ha
    exact ⟨v, by simpa using h1, h2.mono (Env.add_le hf)⟩⟩, .ptr s.n 0 _ (Env.add_self _ _)⟩
theorem made_slice {e : TypeId} {cs : List AV} {c : Array Value} {m : Sem Value} {len cap mc es : Nat} (hp : Pre ρ T s (s.new (.cells (2 * e) cs)) w) (hm : m.run P w = .ok (.slice (some ⟨w.heap.size, 0, none⟩) len cap) { w with heap := w.heap.push (.cells c e) })
    (hl : cs.length ≤ c.size) (hv : ∀ (i : Nat) (a : AV), cs[i]? = some a → ∃ v, c[i]? = some v ∧ VR ρ a v) (h1 : len ≤ mc) (h2 : mc ≤ cap) (h3 : cap * es ≤ c.size) : OK1 P m ρ T s w (.slice s.n 0 len mc es) (s.new (.cells (2 * e) cs)) :=
  ⟨_, _, _, hm, made_ok hp (Add.push w _) (fun o _ => by simp) hl hv, .slice s.n 0 len mc es _ _ _ (Env.add_self _ _) h1 h2 (.inr ⟨rfl, by simpa using h3⟩)⟩
theorem zeroC_ok {t : TypeId} {z : List AV} (h : zeroC P t = some z) (w : World) : ∃ v, (zeroValue t).run P w = .ok v w ∧ VRL ρ z v.cells.toList := by
  unfold zeroC at h
  cases hz : zeroA P t with
  | none => rw [hz] at h; cases h
  | some a =>
    rw [hz] at h
    obtain ⟨v, h1, _, h3⟩ := run_zero (ρ := ρ) hz w
    exact ⟨v, h1, cells_ok h3 h⟩
theorem opAlloc_ok {t : TypeId} {z : List AV} (h : zeroC P t = some z) (hp : Pre ρ T s (s.new (.cells (2 * t + 1) z)) w) : OK1 P (Instr.alloc t true (.tuple #[])) ρ T s w (.ptr s.n 0) (s.new (.cells (2 * t + 1) z)) := by
  obtain ⟨v, h1, h2⟩ := zeroC_ok (ρ := ρ) h w
  exact made_ptr1 hp (by simp [Instr.alloc, h1, newVar, run_row]) h2
theorem opBox_ok {t : TypeId} {x : AV} {x' : Value} {c : List AV} (h : cellsA x = some c) (hp : Pre ρ T s (s.new (.cells (2 * t + 1) c)) w) (hx : VR ρ x x') : OK1 P (Instr.box t x') ρ T s w (.ptr s.n 0) (s.new (.cells (2 * t + 1) c)) :=
  made_ptr1 hp (by simp [Instr.box, newVar, run_row]) (cells_ok hx h)
theorem opBuildSlice_mono {t : TypeId} {len : Nat} {ps : List (Nat × AV)} {v : AV} (h : opBuildSlice P t len ps s = some (v, s')) : Mono s s' := by
  unfold opBuildSlice at h
  split at h
  · split at h
    · split at h
      · split at h
        · cases h; exact Mono.new _ _
        · cases h
      · cases h
    · cases h
  · cases h
theorem opBuildSlice_ok {t : TypeId} {len : Nat} {ps : List (Nat × AV)} {ps' : Array (Nat × Value)} {v : AV} (h : opBuildSlice P t len ps s = some (v, s')) (hp : Pre ρ T s s' w) (hx : PR ρ ps ps'.toList) : OK1 P (Instr.buildSlice t len ps') ρ T s w v s' := by
  unfold opBuildSlice at h
  split at h
  · rename_i e hu
    split at h
    · rename_i n z hs hz
      split at h
      · rename_i hc
        obtain ⟨hc1, hc2, hc3⟩ := hc
        split at h
        · rename_i cs hf
          cases h
          obtain ⟨zv, hz1, hz2⟩ := zeroC_ok (ρ := ρ) hz w
          have hzs := hz2.size
          have hrep := repL_ok hz2 (by omega) len len (Nat.le_refl _) hzs
          rw [hc3] at hrep hzs
          have hbase : VRL ρ (repL z len) ((Array.range (len * n)).map (fun i => zv.cells[i % zv.cells.size]!)).toList := by
            refine VRL.of_get (by rw [Array.length_toList, repL_len, hc3]; simp) (fun i a v ha hv => ?_)
            obtain ⟨u, hu1, hR⟩ := hrep i a ha
            rw [Array.getElem?_toList, hu1] at hv
            cases hv
            exact hR
          obtain ⟨r', hr1, hr2⟩ := fill_ok hf hx hbase
          have hln : cs.length = len * n := by
            have h0 : ∀ {ps : List (Nat × AV)} {cells r : List AV} {place : Nat → Option (Nat × Nat)}, fillA place cells ps = some r → r.length = cells.length := by
              intro ps
              induction ps with
              | nil => intro cells r place h; simp [fillA] at h; subst h; rfl
              | cons p l ih =>
                intro cells r place h
                obtain ⟨i, x⟩ := p
                unfold fillA at h
                split at h
                · split at h
                  · split at h
                    · split at h
                      · rename_i hset
                        rw [ih h, (setL_ok hset).1]
                      · cases h
                    · cases h
                  · cases h
                · cases h
            rw [h0 hf, repL_len, hc3]
          have hrs := hr2.size
          refine made_slice hp (c := r') ?_ (by omega) (fun i a ha => hr2.aget ha) (Nat.le_refl _) (Nat.le_refl _) (by omega)
          have hmod : (fun x => zv.cells[x % n]!) = fun i => zv.cells[i % zv.cells.size]! := by rw [hzs]
          have hnot : ¬ len * n > 2 ^ 24 := by omega
          unfold Instr.buildSlice
          simp only [Sem.run_bind, run_underlying hu, Result.andThen_ok, run_szOf hs, Sem.run_ite, if_neg hnot, Sem.run_pure]
          by_cases h0 : len * n = 0
          · have hl0 : len = 0 := by
              rcases Nat.mul_eq_zero.1 h0 with h | h <;> omega
            subst hl0
            simp only [Nat.zero_mul, if_true]
            have : ((Array.range 0).map (fun x => (#[] : Array Value)[x % (#[] : Array Value).size]!)) = ((Array.range (0 * n)).map (fun i => zv.cells[i % zv.cells.size]!)) := by simp
            rw [this, hr1]
            simp [run_row]
          · simp only [if_neg h0, hz1, Result.andThen_ok]
            rw [hr1]
            simp [run_row]
        · cases h
      · cases h
    · cases h
  · cases h
end
end Go.Proofs.YtmabpnmnppfgaaaGreatDoor.Rk
namespace Go.Proofs.YtmabpnmnppfgaaaGreatDoor.Rk
open Go
set_option linter.unusedVariables false
section
variable {P : Program} {ρ : Env} {T : Nat → Nat → Prop} {s s' : St} {w w' : World}
theorem zeroC_info {t : TypeId} {z : List AV} {i : TypeInfo} (h : zeroC P t = some z) (hi : P.info? t = some i) : ∃ v, i.zero = some v ∧ VRL ρ z v.cells.toList := by
  unfold zeroC zeroA at h
  rw [hi] at h
  cases hz : i.zero with
  | none => simp [hz] at h
  | some v =>
    simp [hz] at h
    exact ⟨v, rfl, cells_ok (ofV_ok 3 v) h⟩
theorem opMakeSlice_mono {t : TypeId} {l c v : AV} (h : opMakeSlice P t l c s = some (v, s')) : Mono s s' := by
  unfold opMakeSlice at h
  split at h
  · split at h
    · split at h
      · cases h; exact Mono.new _ _
      · cases h
    · cases h
  · cases h
theorem opMakeSlice_ok {t : TypeId} {l c v : AV} {l' c' : Value} (h : opMakeSlice P t l c s = some (v, s')) (hp : Pre ρ T s s' w) (hl : VR ρ l l') (hc : VR ρ c c') : OK1 P (Instr.makeSlice t l' c') ρ T s w v s' := by
  unfold opMakeSlice at h
  split at h
  · rename_i e kl n kc m hu
    split at h
    · rename_i i z hi hz
      split at h
      · rename_i hc0
        obtain ⟨h1, h2, h3, h4, h5⟩ := hc0
        cases h
        cases hl
        cases hc
        obtain ⟨zv, hzi, hzv⟩ := zeroC_info (ρ := ρ) hz hi
        have hzs := hzv.size
        have hb : (i.bytes : Int) * ((m : Nat) : Int) ≤ 281474976710656 := by
          have h6 : i.bytes * m ≤ 100000 * 1000000 := Nat.mul_le_mul h3 (by omega)
          have : ((i.bytes * m : Nat) : Int) ≤ 281474976710656 := by omega
          rwa [Int.natCast_mul] at this
        have hr := run_make (P := P) w t e i zv hu hi hzi kl kc n m (by omega) (by omega) hb (by omega)
        have hrep := repL_ok hzv (by omega) n m h1 hzs
        simp only [Int.toNat_natCast] at hr
        refine made_slice hp (c := madeCells zv.cells (m * i.size)) hr (by rw [size_madeCells, repL_len, h5]; exact Nat.mul_le_mul_right _ h1) (fun j a ha => ?_) h1 (Nat.le_refl _) (by rw [size_madeCells]; exact Nat.le_refl _)
        rw [h5] at hrep
        exact hrep j a ha
      · cases h
    · cases h
  · cases h
theorem byteAt_ok : ∀ {cs : List AV} {l : List Nat} {vs : List Value}, byteAt cs = some l → VRL ρ cs vs → ∃ xs : List Int, xs.length = cs.length ∧ vs = xs.map (Value.int .u8) ∧ (∀ x ∈ l, x < 256) ∧ xs.map (fun n => UInt8.ofNat n.toNat) = l.map UInt8.ofNat
  | [], l, _, h, .nil => by simp [byteAt] at h; subst h; exact ⟨[], rfl, rfl, by simp, rfl⟩
  | a :: cs, l, _, h, .cons _ v _ vs hv ht => by
    unfold byteAt at h
    split at h
    · rename_i he; cases he
    · rename_i n l' he
      cases he
      split at h
      · rename_i r hr
        cases h
        cases hv
        obtain ⟨xs, h1, h2, h3, h4⟩ := byteAt_ok hr ht
        refine ⟨(n : Int) :: xs, by simp [h1], by simp [h2], fun x hx => ?_, ?_⟩
        · rcases List.mem_cons.1 hx with rfl | hx
          · omega
          · exact h3 x hx
        · simp only [List.map_cons, h4]
          congr 1
          apply UInt8.toNat_inj.1
          simp
      · cases h
    · cases h
theorem conv_mono {src dst : TypeId} {x v : AV} (h : conv P src dst x s = some (v, s')) : Mono s s' := by
  unfold conv at h
  split at h
  · cases h; exact Mono.refl _
  · cases h; exact Mono.refl _
  · split at h
    · split at h
      · cases h; exact Mono.refl _
      · cases h
    · cases h
  · split at h
    · split at h
      · split at h
        · rename_i hr
          split at h
          · cases h; exact (rd_mono hr).2
          · cases h
        · cases h
      · cases h
    · cases h
  · split at h
    · split at h
      · cases h; exact Mono.new _ _
      · cases h
    · cases h
  · cases h
theorem bytes_get (l : List Nat) (hl : ∀ x ∈ l, x < 256) : VRL ρ (bytesA l) ((⟨(l.map UInt8.ofNat).toArray⟩ : ByteArray).data.map fun b => Value.int .u8 b.toNat).toList := by
  simp only [Array.toList_map, List.map_map]
  refine VRL.map _ _ _ (fun x hx => ?_)
  have := hl x hx
  have e : (UInt8.ofNat x).toNat = x := by simp; omega
  show VR ρ (.int .u8 (Int.ofNat x)) (.int .u8 ((UInt8.ofNat x).toNat : Int))
  rw [e]
  exact .int _ _
theorem conv_ok {src dst : TypeId} {x v : AV} {x' : Value} (h : conv P src dst x s = some (v, s')) (hsrc : ∃ d, P.underlying src = some d) (hp : Pre ρ T s s' w) (hx : VR ρ x x') : OK1 P (convert src dst x') ρ T s w v s' := by
  obtain ⟨d0, hd0⟩ := hsrc
  unfold conv at h
  split at h
  · rename_i k k' n hu
    cases h
    cases hx
    exact OK1.pure hp (by simp [convert, run_underlying hd0, run_underlying hu, Conv.intToInt]) (.int _ _)
  · rename_i l hu
    cases h
    cases hx with
    | str _ hl => exact OK1.pure hp (by simp [convert, run_underlying hd0, run_underlying hu]) (.str l hl)
  · rename_i hu
    split at h
    · rename_i e hs
      split at h
      · rename_i he
        cases h
        cases hx
        exact OK1.pure hp (run_convert_bytes_nil (P := P) w src e hs he 0 0 dst hu) (VR.string ByteArray.empty)
      · cases h
    · cases h
  · rename_i b off len mc es hu
    split at h
    · rename_i e hs
      split at h
      · rename_i he
        split at h
        · rename_i cs s1 hr
          split at h
          · rename_i l hl
            cases h
            cases hx with
            | slice _ _ _ _ _ r ad cap hb h1 h2 h3 =>
              obtain ⟨vs, g1, g2, g3⟩ := rd_ok hr hp hb
              obtain ⟨e1, _⟩ := rd_mono hr
              obtain ⟨xs, k1, k2, k3, k4⟩ := byteAt_ok hl g2
              have hlen := g2.length
              rcases ad with ⟨B, o, sp⟩
              have hx : xs.length = len := by omega
              have hcell : ∀ i, i < len → (loadCells ⟨B, o, sp⟩ len).run P w = (loadCells ⟨B, o, sp⟩ len).run P w := fun _ _ => rfl
              by_cases h0 : len = 0
              · subst h0
                have : l = [] := by
                  have h5 := congrArg List.length k4
                  simp at h5
                  exact List.length_eq_zero_iff.1 (by omega)
                subst this
                refine ⟨ρ, w, .string ByteArray.empty, ?_, Post.same hp.good (by rw [e1]; rfl) (by rw [e1]; rfl) (Still.refl w), VR.string ByteArray.empty⟩
                simp [convert, run_underlying hs, run_underlying hu, run_underlying he, Conv.bytesToString, loadCells, loadCellsFrom]
              · have had := (h3.resolve_left (by omega)).1
                have hro := run_convert_bytes_arg (P := P) w src e hs he r.blk (r.base + off) len cap xs hx (fun i hi => by
                  have := g3 i (.int .u8 (xs.getD i 0)) (by rw [k2, List.getElem?_map, List.getElem?_eq_getElem (by omega), List.getD_eq_getElem?_getD, List.getElem?_eq_getElem (by omega)]; rfl)
                  rw [RB.at_add] at this
                  rw [← this]
                  unfold RB.at
                  rw [Nat.add_assoc]) dst hu
                refine ⟨ρ, w, .string (strOfNums xs), ?_, Post.same hp.good (by rw [e1]; rfl) (by rw [e1]; rfl) (Still.refl w), ?_⟩
                · rw [had]; exact hro
                · unfold strOfNums
                  rw [k4]
                  exact .str l k3
          · cases h
        · cases h
      · cases h
    · cases h
  · rename_i e l hu
    split at h
    · rename_i he hsz
      split at h
      · rename_i hlen
        cases h
        cases hx with
        | str _ hl =>
          have hbl := bytes_get (ρ := ρ) l hl
          have hbs := hbl.size
          have hsize : (⟨(l.map UInt8.ofNat).toArray⟩ : ByteArray).size = l.length := by simp [ByteArray.size]
          generalize hba : (⟨(l.map UInt8.ofNat).toArray⟩ : ByteArray) = ba at *
          simp only [bytesA, List.length_map] at hbs
          let cap := (Question.appendCap ba.size 0 e).cut (w.tape w.drawn (.appendCap ba.size 0 e))
          have hcap : cap = ba.size + (w.tape w.drawn (.appendCap ba.size 0 e)) % (2 ^ 63 - ba.size) := rfl
          have hbsz : (ba.data.map fun (b : UInt8) => Value.int .u8 b.toNat).size = ba.size := by rw [Array.size_map]; rfl
          let c : Array Value := (ba.data.map fun b => Value.int .u8 b.toNat) ++ Array.replicate (cap - ba.size) (.int .u8 0)
          have hcs : c.size = cap := by
            show ((ba.data.map fun (b : UInt8) => Value.int .u8 b.toNat) ++ Array.replicate (cap - ba.size) (Value.int .u8 0)).size = cap
            rw [Array.size_append, hbsz, Array.size_replicate]; omega
          have hrun : (convert src dst (.string ba)).run P w = .ok (.slice (some ⟨w.heap.size, 0, none⟩) ba.size cap) { w with drawn := w.drawn + 1, heap := w.heap.push (.cells c e (cap, cap + 1)) } := by
            have hconv : (convert src dst (.string ba)).run P w = (Conv.stringToBytes e ba).run P w := by
              unfold convert
              simp only [Sem.run_bind, run_underlying hd0, run_underlying hu, run_underlying he, Result.andThen_ok]
            have hforced : (Question.appendCap ba.size 0 e).forced = false := rfl
            rw [hconv]
            unfold Conv.stringToBytes markStringish
            simp only [Sem.run_bind, run_choose, hforced, Bool.false_eq_true, if_false, Result.andThen_ok, run_row, run_shape]
            show (Result.andThen ((match World.shape? { w with drawn := w.drawn + 1, heap := w.heap.push (.cells c e) } w.heap.size with
              | some (_, n) => freeze { block := w.heap.size, off := n } 1
              | _ => pure () : Sem Unit).run P { w with drawn := w.drawn + 1, heap := w.heap.push (.cells c e) }) fun a w' => (Pure.pure (Value.slice (some ⟨w.heap.size, 0, none⟩) ba.size cap) : Sem Value).run P w') = _
            have hsh : World.shape? { w with drawn := w.drawn + 1, heap := w.heap.push (.cells c e) } w.heap.size = some (e, c.size) := by simp [World.shape?]
            rw [hsh]
            simp only [run_freeze, Result.andThen_ok, Sem.run_pure, World.freeze, Nat.one_ne_zero, if_false]
            congr 1
            congr 1
            apply Array.ext_getElem?
            intro i
            rw [Array.getElem?_modify]
            by_cases hi : w.heap.size = i
            · subst hi; simp [hcs]
            · rw [if_neg hi]; simp [Array.getElem?_push, Ne.symm hi]
          have hadd : Add w { w with drawn := w.drawn + 1, heap := w.heap.push (.cells c e (cap, cap + 1)) } (.cells c e (cap, cap + 1)) := (Add.push w _).drew _
          refine ⟨_, _, _, hrun, made_ok hp hadd (fun o ho => by
            rw [hcs] at ho
            show (decide (cap ≤ o) && decide (o < cap + 1)) = false
            rw [decide_eq_false (by omega)]
            rfl) (by rw [hcs, bytesA, List.length_map]; omega) (fun i a ha => ?_), ?_⟩
          · obtain ⟨v, hv, hR⟩ := hbl.aget ha
            refine ⟨v, ?_, hR⟩
            show ((ba.data.map fun (b : UInt8) => Value.int .u8 b.toNat) ++ Array.replicate (cap - ba.size) (Value.int .u8 0))[i]? = some v
            rw [Array.getElem?_append_left (Array.getElem?_eq_some_iff.1 hv).1]
            exact hv
          · rw [hsize]
            exact .slice s.n 0 l.length l.length 1 _ _ _ (Env.add_self _ _) (Nat.le_refl _) (by omega) (.inr ⟨rfl, by show 0 + cap * 1 ≤ c.size; omega⟩)
      · cases h
    · cases h
  · cases h
end
end Go.Proofs.YtmabpnmnppfgaaaGreatDoor.Rk
