/- Plain functions of rows and their legs: no Go in sight. -/
import Derived.Test.YtjbhlojfmcldjabBase
namespace Go.Proofs.Ytjbhlojfmcldjab.P
set_option linter.unusedVariables false
structure Leg where
  name : ByteArray
  status : Int
  tries : Int
  due : Int
  payload : ByteArray
  reply : ByteArray
structure Dest where
  name : ByteArray
  chain : Int
  file : Bool
  port : Int
  dir : ByteArray
  retry : Int
  backoff : Int
  timeout : Int
  response : ByteArray
/-- A row but for its legs. -/
structure Head where
  id : Int
  run : Int
  time : Int
  state : Int
  done : Int
  raw : ByteArray
  fault : Int
def Leg.cells (l : Leg) : List Value := [.string l.name, .int .i64 l.status, .int .i64 l.tries, .int .i64 l.due, .string l.payload, .string l.reply]
def Dest.cells (d : Dest) : List Value := [.string d.name, .int .i64 d.chain, .bool d.file, .int .i64 d.port, .string d.dir, .int .i64 d.retry, .int .i64 d.backoff, .int .i64 d.timeout, .string d.response]
def Leg.isOpen (l : Leg) : Bool := l.status == 1 || l.status == 2
/-- The place of a destination's leg. -/
def legAt (ls : List Leg) (name : ByteArray) : Option Nat := ls.findIdx? fun l => l.name.data.toList == name.data.toList
def nextGo (ls : List Leg) : List Dest → List Int → List ByteArray
  | [], _ => []
  | d :: ds, busy => match legAt ls d.name with
    | none => nextGo ls ds busy
    | some k => match ls[k]? with
      | none => nextGo ls ds busy
      | some l => if l.isOpen then (if busy.contains d.chain then nextGo ls ds (d.chain :: busy) else d.name :: nextGo ls ds (d.chain :: busy)) else nextGo ls ds busy
def next (state : Int) (ds : List Dest) (ls : List Leg) : List ByteArray := if state = 3 then nextGo ls ds [] else []
def terminal (state : Int) (ls : List Leg) : Bool := state == 1 || (state == 2 || (state == 3 && ls.all fun l => !l.isOpen))
def mayLeg (x y : Leg) : Bool := x.name.data.toList == y.name.data.toList && (x.status == y.status || ((x.status == 1 || x.status == 2) && ((y.status == 2 || y.status == 3 || y.status == 4 || y.status == 0) && decide (x.tries ≤ y.tries))))
def mayLegs : List Leg → List Leg → Bool
  | [], [] => true
  | x :: xs, y :: ys => mayLeg x y && mayLegs xs ys
  | _, _ => false
def forward (a b : Head) (la lb : List Leg) : Bool :=
  a.id == b.id && (a.run == b.run && (a.time == b.time && (a.raw.data.toList == b.raw.data.toList && (a.state == 0 || (a.state == b.state && (a.state != 3 || mayLegs la lb))))))
end Go.Proofs.Ytjbhlojfmcldjab.P
