/- Part 3 of the proof. -/
import Derived.Test.YtpohlhkgbmdieaaGreatDoorW0
import Derived.Control
import Derived.Scope
import Derived.CallsIn
import Derived.Laws.Rows
set_option linter.unusedVariables false
set_option maxRecDepth 1000000
set_option maxHeartbeats 16000000
namespace Go.Proofs.YtpohlhkgbmdieaaGreatDoor.Rk
open Go
inductive AV where
 |top
 |bool (b:Bool)
 |int (k:IntKind) (n:Int)
 |str (l:List Nat)
 |ptr (b off:Nat)
 |kK
 |slice (b off len mc es:Nat)
 |iw
 |map (b:Nat)
 |mD
 |func (f:FuncId) (first cap:List AV)
 |qd
 |iface (t:TypeId) (v:AV)
 |kL
 |agg (cs:List AV)
 |tuple (vs:List AV)
 |yield (b:Nat)
deriving Inhabited
inductive Tr(α:Type) where
 |leaf
 |node (l:Tr α) (v:Option α) (r:Tr α)
namespace Tr
variable {α:Type}
def get:Tr α->Nat->Option α
 |leaf,_=>none
 |node l v r,k=>if k=0 then v else if k%2=1 then l.get (k/2) else r.get (k/2-1)
def xn:Nat->Tr α->Nat->α->Tr α
 |0,t,_,_=>t
 |f+1,leaf,k,v=>if k=0 then node leaf (some v) leaf else if k%2=1 then node (xn f leaf (k/2) v) none leaf else node leaf none (xn f leaf (k/2-1) v)
 |f+1,node l u r,k,v=>if k=0 then node l (some v) r else if k%2=1 then node (xn f l (k/2) v) u r else node l u (xn f r (k/2-1) v)
def set(t:Tr α)(k:Nat)(v:α):Tr α:=xn (k.log2+2) t k v
end Tr
structure ME where
 k:AV
 v:AV
 born:Nat
inductive bK where
 |cells (t:TypeId) (cs:List AV)
 |map (es:List ME) (clock:Nat)
 |eE (m:Option Nat) (since:Nat) (seen:List Nat) (last:Nat)
 |i1 (l:List Nat) (pos:Nat)
 |pmap (es:List ME)
 |defd
 |loop (ready:Bool) (pending:Option Code) (sz:Nat) (tmps:Tr AV) (params:List Tmp) (assign body:Code) (d:Nat)
 |dead
inductive LE where
 |rd (b i n:Nat)
 |wr (b i n:Nat)
 |all (b:Nat)
def LE.blk:LE->Nat
 | .rd b _ _| .wr b _ _| .all b=>b
structure St where
 heap:Tr bK
 n:Nat
 log:List LE
def bytesOf(s:ByteArray):List Nat:=s.data.toList.map UInt8.toNat
def SZ:Nat->Value->AV
 |_,.bool b=> .bool b
 |_,.int k n=> .int k n
 |_,.string s=> .str (bytesOf s)
 |_,.pointer none=> .kK
 |_,.slice none 0 0=> .iw
 |_,.map none=> .mD
 |_,.nilFunc=> .qd
 |_,.nilIface=> .kL
 |n+1,.agg cs=> .agg (cs.toList.map (SZ n))
 |n+1,.tuple cs=> .tuple (cs.toList.map (SZ n))
 |_,_=> .top
def oY:AV->Option (List AV)
 | .top=>none
 | .agg cs=>some cs
 |v=>some [v]
def one:AV->Bool
 | .top| .agg _| .tuple _=>false
 |_=>true
inductive DE where
 |fn (f:FuncId) (args:List AV)
 |mark (b:Nat)
structure bI where
 sz:Nat
 tmps:Tr AV
 defs:List DE
def bI.get(a:bI)(t:Nat):AV:=(a.tmps.get t).getD (.tuple [])
def aZ(a:bI):Operand->AV
 | .tmp t=>a.get t
 | .const v=>SZ 3 v
 | .global _=> .top
 | .func f=> .func f [] []
def bI.oZ(a:bI)(d:Tmp)(v:AV):bI:=if d<a.sz then{a with tmps:=a.tmps.set d v} else a
def bI.put(a:bI)(d:Option Tmp)(v:AV):bI:=
 match d with
 |some d=>a.oZ d v
 |none=>a
section
variable (P:Program)
def lF(t:TypeId):Option Nat:=(P.info? t).map (·.size)
def Va:TypeDesc->Bool
 | .struct _| .array _ _=>true
 |_=>false
def Vb(t:TypeId):Option Bool:=(P.underlying t).map Va
def sF(t:TypeId):Option AV:=((P.info? t).bind (·.zero)).map (SZ 3)
def lp(t:TypeId):Option (List AV):=(sF P t).bind oY
def takeN:Nat->List AV->Option (List AV)
 |0,_=>some []
 |n+1,x::l=>match takeN n l with
  |some r=>some (x::r)
  |none=>none
 |_+1,[]=>none
def Vc(cs:List AV)(off n:Nat):Option (List AV):=takeN n (cs.drop off)
def wu:List AV->Nat->List AV->Option (List AV)
 |cs,_,[]=>some cs
 |[],_,_::_=>none
 |_::cs,0,v::vs=>match wu cs 0 vs with
  |some r=>some (v::r)
  |none=>none
 |c::cs,i+1,v::vs=>match wu cs i (v::vs) with
  |some r=>some (c::r)
  |none=>none
def St.note(s:St)(e:LE):St:={s with log:=e::s.log}
def St.put(s:St)(b:Nat)(x:bK):St:={s with heap:=s.heap.set b x}
def St.new(s:St)(x:bK):St:={s with heap:=s.heap.set s.n x,n:=s.n+1}
def gy(s:St)(b off n:Nat):Option (List AV×St):=
 match s.heap.get b with
 |some (.cells _ cs)=>match Vc cs off n with
  |some l=>some (l,s.note (.rd b off n))
  |none=>none
 |_=>none
def qg(s:St)(b off:Nat)(vs:List AV):Option St:=
 match s.heap.get b with
 |some (.cells t cs)=>if vs.all one&& !vs.isEmpty then match wu cs off vs with
  |some cs'=>some ((s.put b (.cells t cs')).note (.wr b off vs.length))
  |none=>none else none
 |_=>none
def bJ(d:TypeDesc)(known:Bool)(x y:AV):Option Bool:=match d,x,y with
 | .pointer _,.kK,.kK=>some true
 | .pointer _,.kK,.ptr _ _=>some false
 | .pointer _,.ptr _ _,.kK=>some false
 | .interface _,.kL,.kL=>if known then some true else none
 | .interface _,.kL,.iface _ _=>some false
 | .interface _,.iface _ _,.kL=>some false
 | .map _ _,.mD,.mD=>some true
 | .map _ _,.mD,.map _=>some false
 | .map _ _,.map _,.mD=>some false
 | .func _ _ _,.qd,.qd=>some true
 | .func _ _ _,.qd,.func _ _ _=>some false
 | .func _ _ _,.func _ _ _,.qd=>some false
 | .slice _,.iw,.iw=>some true
 | .slice _,.iw,.slice _ _ _ _ _=>some false
 | .slice _,.slice _ _ _ _ _,.iw=>some false
 | .bool,.bool a,.bool b=>some (a==b)
 |_,_,_=>none
def strLt:List Nat->List Nat->Bool
 |_,[]=>false
 |[],_::_=>true
 |a::x,b::y=>decide (a<b)||(decide (a=b)&&strLt x y)
def iop(op:BinOp)(k:IntKind)(x y:Int):Option AV:=
 match op with
 | .add=>some (.int k (k.wrap (x+y)))
 | .sub=>some (.int k (k.wrap (x-y)))
 | .mul=>some (.int k (k.wrap (x*y)))
 | .quo=>if y=0 then none else some (.int k (k.wrap (x.tdiv y)))
 | .rem=>if y=0 then none else some (.int k (x.tmod y))
 | .and=>some (.int k (k.wrap (BitVec.ofInt k.bits x&&&BitVec.ofInt k.bits y).toNat))
 | .or=>some (.int k (k.wrap (BitVec.ofInt k.bits x|||BitVec.ofInt k.bits y).toNat))
 | .xor=>some (.int k (k.wrap (BitVec.ofInt k.bits x^^^BitVec.ofInt k.bits y).toNat))
 | .andNot=>some (.int k (k.wrap (BitVec.ofInt k.bits x&&& ~~~BitVec.ofInt k.bits y).toNat))
 | .eql=>some (.bool (x==y))
 | .neq=>some (.bool (x !=y))
 | .lss=>some (.bool (decide (x<y)))
 | .leq=>some (.bool (decide (x<=y)))
 | .gtr=>some (.bool (decide (x>y)))
 | .geq=>some (.bool (decide (x>=y)))
 | .shl=>if y<0 then none else some (.int k (k.wrap (x*2^(min y.toNat k.bits))))
 | .shr=>if y<0 then none else some (.int k (x.fdiv (2^(min y.toNat k.bits))))
def sop(op:BinOp)(x y:List Nat):Option AV:=
 match op with
 | .add=>if x.length+y.length<1000000 then some (.str (x++y)) else none
 | .eql=>some (.bool (decide (x=y)))
 | .neq=>some (.bool (!decide (x=y)))
 | .lss=>some (.bool (strLt x y))
 | .leq=>some (.bool (strLt x y||decide (x=y)))
 | .gtr=>some (.bool !(strLt x y||decide (x=y)))
 | .geq=>some (.bool !strLt x y)
 |_=>none
def Bv:BinOp->Bool
 | .shl| .shr=>true
 |_=>false
def kM(a b:AV):Option Bool:=match a,b with
 | .str a,.str b=>some (decide (a=b))
 | .int k a,.int j b=>if k=j then some (a==b) else none
 | .bool a,.bool b=>some (a==b)
 |_,_=>none
def ny:List AV->List AV->Option Bool
 |[],[]=>some true
 |a::l,b::m=>match kM a b with
  |some true=>ny l m
  |r=>r
 |_,_=>none
def mE(a b:AV):Option Bool:=match a,b with
 | .agg a,.agg b=>ny a b
 |a,b=>kM a b
def i6:TypeDesc->AV->Bool
 | .string,.str _=>true
 | .int _,.int _ _=>true
 | .bool,.bool _=>true
 |_,_=>false
def iC:List Field->List AV->Nat->Bool
 |[],[],_=>true
 |f::fs,c::cs,i=>f.name != "_"&&decide (f.offset=i)&&(match P.underlying f.type with|some d=>i6 d c|none=>false)&&iC fs cs (i+1)
 |_,_,_=>false
def iM(t:TypeId)(d:TypeDesc)(k:AV):Bool:=match d,k with
 | .struct fs,.agg cs=> !P.stoodInHeld t&&iC P fs.toList cs 0
 | .array 1 e,.agg [c]=>decide (lF P e=some 1)&&(match P.underlying e with|some d=>i6 d c|none=>false)
 |d,k=>i6 d k
def y8(t:TypeId)(cs:List AV)(off:Nat):Option AV:=
 match Vb P t,lF P t with
 |some true,some n=>match Vc cs off n with
  |some l=>some (.agg l)
  |none=>none
 |some false,_=>cs[off]?
 |_,_=>none
def Vd(E:TypeId->AV->AV->Option Bool):List Field->List AV->List AV->Option Bool
 |[],_,_=>some true
 |f::fs,cs,ds=>if f.name != "_" then(match y8 P f.type cs f.offset,y8 P f.type ds f.offset with
  |some a,some b=>(match E f.type a b with
   |some true=>Vd E fs cs ds
   |r=>r)
  |_,_=>none) else none
def eqD:Nat->TypeId->AV->AV->Option Bool
 |0,_,_,_=>none
 |d+1,t,x,y=>match P.underlying t,x,y with
  |some (.struct fs),.agg cs,.agg ds=>if P.stoodInHeld t then none else Vd P (eqD d) fs.toList cs ds
  |some td,x,y=>if i6 td x then kM x y else none
  |none,_,_=>none
def eqS(t:TypeId)(d:TypeDesc)(x y:AV):Option Bool:=match d,x,y with
 | .struct _,.agg _,.agg _=>if !P.eqGuardType P.depth t then eqD P 5 t x y else none
 |_,_,_=>none
def bop(t:TypeId)(op:BinOp)(d:Option TypeDesc)(known:Bool)(x y:AV):Option AV:=
 match x,y with
 | .int k a,.int j b=>if k=j||Bv op then iop op k a b else none
 | .str a,.str b=>sop op a b
 |x,y=>match op,d with
  | .eql,some d=>match bJ d known x y with
    |some b=>some (.bool b)
    |none=>match eqS P t d x y with
     |some b=>some (.bool b)
     |none=>none
  | .neq,some d=>match bJ d known x y with
    |some b=>some (.bool !b)
    |none=>match eqS P t d x y with
     |some b=>some (.bool !b)
     |none=>none
  |_,_=>none
def isConst:Operand->Bool
 | .const _=>true
 |_=>false
def uop(op:UnOp)(x:AV):Option AV:=
 match op,x with
 | .neg,.int k n=>some (.int k (k.wrap (0-n)))
 | .xor,.int k n=>some (.int k (k.wrap (BitVec.ofInt k.bits (if k.signed then-1 else k.max)^^^BitVec.ofInt k.bits n).toNat))
 | .not,.bool b=>some (.bool !b)
 |_,_=>none
def rJ:List AV->Option (List Nat)
 |[]=>some []
 | .int .u8 (.ofNat n)::l=>match rJ l with
   |some r=>some (n%256::r)
   |none=>none
 |_=>none
def rK(l:List Nat):List AV:=l.map fun n=> .int .u8 (Int.ofNat n)
def conv(src dst:TypeId)(x:AV)(s:St):Option (AV×St):=
 match P.underlying dst,x with
 |some (.int k),.int _ n=>some (.int k (k.wrap n),s)
 |some .string,.str l=>some (.str l,s)
 |some .string,.iw=>
  match P.underlying src with
  |some (.slice e)=>match P.underlying e with
   |some (.int .u8)=>some (.str [],s)
   |_=>none
  |_=>none
 |some .string,.slice b off len _ _=>
  match P.underlying src with
  |some (.slice e)=>match P.underlying e with
   |some (.int .u8)=>match gy s b off len with
    |some (cs,s)=>match rJ cs with
     |some l=>some (.str l,s)
     |none=>none
    |none=>none
   |_=>none
  |_=>none
 |some (.slice e),.str l=>match P.underlying e,lF P e with
  |some (.int .u8),some 1=>if l.length<1000000 then some (.slice s.n 0 l.length l.length 1,s.new (.cells (2*e) (rK l))) else none
  |_,_=>none
 |_,_=>none
def ot(place:Nat->Option (Nat×Nat)):List AV->List (Nat×AV)->Option (List AV)
 |cells,[]=>some cells
 |cells,(i,v)::rest=>
  match place i with
  |some (off,size)=>match oY v with
   |some c=>if c.length=size/\0<size then match wu cells off c with
    |some c=>ot place c rest
    |none=>none else none
   |none=>none
  |none=>none
def qh(z:List AV):Nat->List AV
 |0=>[]
 |n+1=>z++qh z n
def bnd(x:Option AV)(d:Nat):Option Nat:=match x with
 |none=>some d
 |some (.int _ (.ofNat n))=>some n
 |_=>none
def il(k:AV):List ME->Nat->Option (Option (Nat×AV))
 |[],_=>some none
 |e::l,i=>match mE k e.k with
  |some true=>some (some (i,e.v))
  |some false=>il k l (i+1)
  |none=>none
def Rj(e:TypeId)(sz:Nat)(y:AV)(s:St):Option (Nat×List AV×St):=match y with
 | .iw=>some (0,[],s)
 | .str l=>if sz=1 then some (l.length,rK l,s) else none
 | .slice b off len _ es=>if es=sz then match gy s b off (len*sz) with
   |some (cs,s)=>some (len,cs,s)
   |none=>none else none
 |_=>none
def zOk(e:TypeId)(n:Nat):Bool:=match lp P e with
 |some z=>decide (z.length=n)
 |none=>false
def nz(t:TypeId)(x y:AV)(s:St):Option (AV×St):=
 match P.underlying t with
 |some (.slice e)=>match P.info? e with
  |some i=>match Rj e i.size y s with
   |none=>none
   |some (n,cs,s)=>
    if cs.all one&&decide (i.bytes<=100000)&&decide (0<i.size)&&decide (n<1000000)&&zOk P e i.size then
    match x with
    | .iw=>if n=0 then some (x,s) else some (.slice s.n 0 n n i.size,s.new (.cells (2*e) cs))
    | .slice b off len mc es=>
      if n=0 then some (x,s) else
      match s.heap.get b with
      |some (.cells t cs0)=>
       if t=2*e/\es=i.size/\len<1000000 then
       if len+n<=mc then
        match wu (cs0++qh [.top] (off+(len+n)*i.size-cs0.length)) (off+len*i.size) cs with
        |some cs1=>some (.slice b off (len+n) mc es,(s.put b (.cells t cs1)).note (.all b))
        |none=>none
       else if off+len*i.size=cs0.length then
        some (.slice s.n 0 (len+n) (len+n) es,((s.put b .dead).note (.all b)).new (.cells t (cs0.drop off++cs)))
       else none
       else none
      |_=>none
    |_=>none
    else none
  |none=>none
 |_=>none
def YF(x y:AV):Option AV:=match x,y with
 | .int k a,.int _ b=>some (.int k (if b<a then b else a))
 |_,_=>none
def YG(x y:AV):Option AV:=match x,y with
 | .int k a,.int _ b=>some (.int k (if b>a then b else a))
 |_,_=>none
def qi(f:AV->AV->Option AV):AV->List AV->Option AV
 |x,[]=>some x
 |x,y::l=>match f x y with
  |some z=>qi f z l
  |none=>none
def MI(d:Option TypeDesc)(x:AV)(s:St):Option (AV×St):=match d,x with
 |some .string,.str l=>some (.int .i64 l.length,s)
 |some (.slice _),.iw=>some (.int .i64 0,s)
 |some (.slice _),.slice _ _ n _ _=>some (.int .i64 n,s)
 |some (.map _ _),.mD=>some (.int .i64 0,s)
 |some (.map _ _),.map b=>match s.heap.get b with
  |some (.map es _)=>some (.int .i64 es.length,s.note (.rd b 0 1))
  |_=>none
 |some (.array n _),_=>some (.int .i64 n,s)
 |some (.pointer t),_=>match P.underlying t with
  |some (.array n _)=>some (.int .i64 n,s)
  |_=>none
 |_,_=>none
def i7:List AV->Option AV
 |[.iw]=>some .kK
 |[.slice b off len _ _]=>if 0<len then some (.ptr b off) else none
 |_=>none
def ju(t:TypeId)(args:List AV)(s:St):Option (AV×St):=match args with
 |[.kK,.int .i64 n]=>if n=0 then some (.str [],s) else none
 |[.ptr b off,.int .i64 (.ofNat n)]=>match P.underlying t,s.heap.get b with
  |some (.pointer e),some (.cells t0 _)=>if t0/2=e/\P.cellsOf e=1/\0<n/\n<1000000 then
    match gy s b off n with
    |some (cs,s1)=>match rJ cs with
     |some l=>some (.str l,(s1.put b .dead).note (.all b))
     |none=>none
    |none=>none
   else none
  |_,_=>none
 |_=>none
def ig:AV:= .tuple []
def unit:Option St->Option (AV×St)
 |some s=>some (ig,s)
 |none=>none
def mF(t:TypeId)(m k:AV)(s:St):Option St:=match P.underlying t,m with
 |some (.map kt _),.map b=>match P.underlying kt,s.heap.get b with
  |some d,some (.map es clock)=>if iM P kt d k then match il k es 0 with
   |some (some (i,_))=>some ((s.put b (.map (es.eraseIdx i) clock)).note (.all b))
   |some none=>some ((s.put b (.map es clock)).note (.all b))
   |none=>none else none
  |_,_=>none
 |_,_=>none
def qj(b:Builtin)(ts:Array TypeId)(args:List AV)(s:St):Option (AV×St):=
 match b with
 | .len=>match args with
   |[x]=>MI P ((ts[0]?).bind P.underlying) x s
   |_=>none
 | .append=>match ts[0]?,args,((ts[1]?).bind P.underlying) with
   |some t,[x,y],some (.slice _)=>nz P t x y s
   |some t,[x,y],some .string=>nz P t x y s
   |_,_,_=>none
 | .min=>match args with
   |x::l=>match qi YF x l with
    |some v=>some (v,s)
    |none=>none
   |[]=>none
 | .max=>match args with
   |x::l=>match qi YG x l with
    |some v=>some (v,s)
    |none=>none
   |[]=>none
 | .unsafeSliceData=>match i7 args with
   |some v=>some (v,s)
   |none=>none
 | .unsafeString=>match ts.toList with
   |[t,_]=>ju P t args s
   |_=>none
 | .delete=>match ts[0]?,args with
   |some t,[m,k]=>unit (mF P t m k s)
   |_,_=>none
 |_=>none
def parts(a:bI)(ps:Array (Nat×Operand)):List (Nat×AV):=ps.toList.map fun p=>(p.1,aZ a p.2)
def Bw(t:TypeId)(ps:List (Nat×AV)):Option AV:=match lp P t,P.underlying t with
 |some z,some (.struct fs)=>match fs.toList.mapM (fun f=>(P.info? f.type).map fun i=>(f.offset,i.size)) with
  |some places=>match ot (fun i=>places[i]?) z ps with
   |some cs=>some (.agg cs)
   |none=>none
  |none=>none
 |some z,some (.array _ e)=>match P.info? e with
  |some i=>match ot (fun k=>some (k*i.size,i.size)) z ps with
   |some cs=>some (.agg cs)
   |none=>none
  |none=>none
 |_,_=>none
def fF(t:TypeId)(len:Nat)(ps:List (Nat×AV))(s:St):Option (AV×St):=match P.underlying t with
 |some (.slice e)=>match lF P e,lp P e with
  |some n,some z=>if len*n<=2^24/\0<n/\z.length=n then match ot (fun i=>some (i*n,n)) (qh z len) ps with
   |some cs=>some (.slice s.n 0 len len n,s.new (.cells (2*e) cs))
   |none=>none else none
  |_,_=>none
 |_=>none
def mG(t:TypeId)(x:AV)(s:St):Option (AV×St):=match x,Vb P t,lF P t with
 | .ptr b off,some true,some n=>match gy s b off n with
   |some (cs,s)=>some (.agg cs,s)
   |none=>none
 | .ptr b off,some false,_=>match gy s b off 1 with
   |some ([v],s)=>some (v,s)
   |_=>none
 |_,_,_=>none
def ql(t:TypeId)(x y:AV)(s:St):Option St:=match x,oY y,lF P t with
 | .ptr b off,some cs,some n=>if cs.length=n then(if n=0 then some s else qg s b off cs) else none
 |_,_,_=>none
def gU(t:TypeId)(l c:AV)(s:St):Option (AV×St):=match P.underlying t,l,c with
 |some (.slice e),.int _ (.ofNat l),.int _ (.ofNat c)=>match P.info? e,lp P e with
  |some i,some z=>if l<=c/\c<1000000/\i.bytes<=100000/\0<i.size/\z.length=i.size then some (.slice s.n 0 l c i.size,s.new (.cells (2*e) (qh z l))) else none
  |_,_=>none
 |_,_,_=>none
def MJ(lo hi:Option AV)(len cap:Nat):Option (Nat×Nat):=match bnd hi len with
 |some h=>match bnd lo 0 with
  |some k=>if k<=h/\h<=cap then some (k,h) else none
  |none=>none
 |none=>none
def Bx(t:TypeId)(x:AV)(lo hi mx:Option AV):Option AV:=match mx with
 |some _=>none
 |none=>match x,P.underlying t with
  | .str l,some .string=>match MJ lo hi l.length l.length with
    |some (k,h)=>some (.str ((l.take h).drop k))
    |none=>none
  | .iw,some (.slice e)=>match MJ lo hi 0 0,lF P e with
    |some _,some _=>some .iw
    |_,_=>none
  | .slice b off len mc es,some (.slice e)=>match MJ lo hi len mc,lF P e with
    |some (k,h),some n=>if n=es then some (.slice b (off+k*n) (h-k) (mc-k) es) else none
    |_,_=>none
  |_,_=>none
def ja(t:TypeId)(b off:Nat)(lo hi mx:Option AV)(s:St):Option (AV×St):=match mx with
 |some _=>none
 |none=>match P.underlying t with
  |some (.array len e)=>match MJ lo hi len len,lF P e,s.heap.get b with
   |some (k,h),some n,some (.cells _ cs)=>if off+len*n<=cs.length then some (.slice b (off+k*n) (h-k) (len-k) n,s.note (.rd b off 1)) else none
   |_,_,_=>none
  |_=>none
def mH(t:TypeId)(x:AV)(f:Nat):Option AV:=match P.underlying t,x with
 |some (.struct fs),.ptr b off=>match fs[f]?with
  |some fd=>match lF P fd.type with
   |some (_+1)=>some (.ptr b (off+fd.offset))
   |_=>none
  |none=>none
 |_,_=>none
def Bz(t:TypeId)(x:AV)(f:Nat):Option AV:=match P.underlying t,x with
 |some (.struct fs),.agg cs=>match fs[f]?with
  |some fd=>y8 P fd.type cs fd.offset
  |none=>none
 |_,_=>none
def mI(t:TypeId)(x i:AV):Option AV:=match P.underlying t,x,i with
 |some (.array len e),.ptr b off,.int _ (.ofNat i)=>match lF P e with
  |some n=>if i<len then some (.ptr b (off+i*n)) else none
  |none=>none
 |some (.slice e),.slice b off len _ _,.int _ (.ofNat i)=>match lF P e with
  |some n=>if i<len then some (.ptr b (off+i*n)) else none
  |none=>none
 |_,_,_=>none
def BF(t:TypeId)(x i:AV):Option AV:=match P.underlying t,x,i with
 |some .string,.str l,.int _ (.ofNat i)=>match l[i]?with
  |some n=>some (.int .u8 (Int.ofNat n))
  |none=>none
 |some (.array len e),.agg cs,.int _ (.ofNat i)=>match lF P e with
  |some n=>if i<len then y8 P e cs (i*n) else none
  |none=>none
 |_,_,_=>none
def mapA(x:AV)(s:St):Option (List ME×St):=match x with
 | .mD=>some ([],s)
 | .map b=>match s.heap.get b with
   |some (.map es _)=>some (es,s.note (.rd b 0 1))
   |_=>none
 |_=>none
def wy(x:AV)(s:St):Option (Nat×List ME):=match x with
 | .map b=>match s.heap.get b with
   |some (.pmap es)=>some (b,es)
   |_=>none
 |_=>none
def JV(k:AV)(es:List ME):Option (Option AV):=if es.all (fun e=>(mE k e.k).isSome) then match es.filter (fun e=>mE k e.k==some true) with
    |[]=>some none
    |[e]=>some (some e.v)
    |_=>none else none
def iH(t:TypeId)(b:Nat)(es:List ME)(i:AV)(ok:Bool)(s:St):Option (AV×St):=match P.underlying t with
 |some (.map k e)=>match P.underlying k with
  |some d=>if iM P k d i then match JV i es with
   |some (some v)=>some (if ok then .tuple [v,.bool true] else v,s.note (.rd b 0 1))
   |some none=>match sF P e with
    |some z=>some (if ok then .tuple [z,.bool false] else z,s.note (.rd b 0 1))
    |none=>none
   |none=>none else none
  |_=>none
 |_=>none
def mJ(t:TypeId)(x i:AV)(ok:Bool)(s:St):Option (AV×St):=match P.underlying t with
 |some (.map k e)=>match P.underlying k,mapA x s with
  |some d,some (es,s)=>if iM P k d i then match il i es 0 with
   |some (some (_,v))=>some (if ok then .tuple [v,.bool true] else v,s)
   |some none=>match sF P e with
    |some z=>some (if ok then .tuple [z,.bool false] else z,s)
    |none=>none
   |none=>none else none
  |_,_=>none
 |_=>none
def mK(t:TypeId)(m k x:AV)(s:St):Option St:=match P.underlying t,m with
 |some (.map kt _),.map b=>match P.underlying kt,s.heap.get b with
  |some d,some (.map es clock)=>if iM P kt d k then match il k es 0 with
   |some (some (i,_))=>some ((s.put b (.map (es.modify i fun e=>{e with v:=x}) clock)).note (.all b))
   |some none=>some ((s.put b (.map (es++[⟨k,x,clock⟩]) (clock+1))).note (.all b))
   |none=>none else none
  |_,_=>none
 |_,_=>none
def qo(t:TypeId)(x:AV)(s:St):Option (AV×St):=match P.underlying t,x with
 |some .string,.str l=>some (.ptr s.n 0,s.new (.i1 l 0))
 |some (.map _ _),.mD=>some (.ptr s.n 0,s.new (.eE none 0 [] 0))
 |some (.map _ _),.map m=>match s.heap.get m with
  |some (.map _ clock)=>some (.ptr s.n 0,(s.note (.rd m 0 1)).new (.eE (some m) clock [] clock))
  |_=>none
 |_,_=>none
def wz(it:AV)(s:St):Option (AV×St):=match it with
 | .ptr b 0=>match s.heap.get b with
   |some (.eE none _ _ _)=>some (.tuple [.bool false],s.note (.all b))
   |some (.eE (some m) since seen last)=>match s.heap.get m with
    |some (.map es clock)=>
     if seen.isEmpty||es.isEmpty||es.any (fun e=>decide (e.born<last)) then
     match es.filter (fun e=> !seen.contains e.born) with
     |[]=>some (.tuple [.bool false],(s.note (.all b)).note (.rd m 0 1))
     |[e]=>if e.born<since then some (.tuple [.bool true,e.k,e.v],((s.put b (.eE (some m) since (seen++[e.born]) clock)).note (.all b)).note (.rd m 0 1)) else none
     |_=>none
     else none
    |_=>none
   |_=>none
 |_=>none
def qp(it:AV)(s:St):Option (AV×St):=match it with
 | .ptr b 0=>match s.heap.get b with
   |some (.i1 l pos)=>match l[pos]?with
    |none=>some (.tuple [.bool false],s.note (.all b))
    |some c=>if c<128 then some (.tuple [.bool true,.int .i64 (Int.ofNat pos),.int .i32 (Int.ofNat c)],(s.put b (.i1 l (pos+1))).note (.all b)) else none
   |_=>none
 |_=>none
def qq(it:AV)(s:St):Option (AV×St):=match it with
 | .ptr b 0=>match s.heap.get b with
   |some (.eE (some m) _ seen last)=>match s.heap.get m,seen.getLast? with
    |some (.map es clock),some EF=>if clock=last then match es.find? (fun e=>e.born==EF) with
     |some e=>some (.tuple [e.k,e.v],(s.note (.rd b 0 1)).note (.rd m 0 1))
     |none=>none
     else none
    |_,_=>none
   |_=>none
 |_=>none
def val(s:St):Option AV->Option (AV×St)
 |some v=>some (v,s)
 |none=>none
def aop(a:bI)(o:Op)(s:St):Option (AV×St):=
 match o with
 | .move x| .assign x=>some (aZ a x,s)
 | .pick c x y=>match aZ a c with
   | .bool b=>some (if b then aZ a x else aZ a y,s)
   |_=>none
 | .alloc t=>match lp P t with
   |some z=>some (.ptr s.n 0,s.new (.cells (2*t+1) z))
   |none=>none
 | .box t x=>match oY (aZ a x) with
   |some c=>some (.ptr s.n 0,s.new (.cells (2*t+1) c))
   |none=>none
 | .build t ps=>val s (Bw P t (parts a ps))
 | .buildSlice t len ps=>fF P t len (parts a ps) s
 | .load t x=>mG P t (aZ a x) s
 | .store t x y=>unit (ql P t (aZ a x) (aZ a y) s)
 | .nilCheck x=>match aZ a x with
   | .ptr b off=>some (.ptr b off,s)
   | .func f k l=>some (.func f k l,s)
   | .iface t v=>some (.iface t v,s)
   |_=>none
 | .binOp op t x y _=>val s (bop P t op (P.underlying t) (isConst x||isConst y) (aZ a x) (aZ a y))
 | .unOp op _ x=>val s (uop op (aZ a x))
 | .convert src dst x=>if(P.underlying src).isSome then conv P src dst (aZ a x) s else none
 | .makeInterface t x=>match P.underlying t with
   |some (.interface _)=>none
   |some _=>some (.iface t (aZ a x),s)
   |none=>none
 | .makeFunc (.func f) first captured=>some (.func f (first.toList.map (aZ a)) (captured.toList.map (aZ a)),s)
 | .makeMap _ none=>some (.map s.n,s.new (.map [] 0))
 | .makeSlice t l c=>gU P t (aZ a l) (aZ a c) s
 | .slice t x lo hi mx=>match aZ a x with
   | .ptr b off=>ja P t b off (lo.map (aZ a)) (hi.map (aZ a)) (mx.map (aZ a)) s
   |v=>val s (Bx P t v (lo.map (aZ a)) (hi.map (aZ a)) (mx.map (aZ a)))
 | .fieldAddr t x f=>val s (mH P t (aZ a x) f)
 | .field t x f=>val s (Bz P t (aZ a x) f)
 | .indexAddr t x i=>val s (mI P t (aZ a x) (aZ a i))
 | .index t x i=>val s (BF P t (aZ a x) (aZ a i))
 | .lookup t x i ok=>match wy (aZ a x) s with
   |some (b,es)=>iH P t b es (aZ a i) ok s
   |none=>mJ P t (aZ a x) (aZ a i) ok s
 | .mapUpdate t m k x| .insert t m k x=>unit (mK P t (aZ a m) (aZ a k) (aZ a x) s)
 | .range t x=>qo P t (aZ a x) s
 | .next it false=>wz (aZ a it) s
 | .next it true=>qp (aZ a it) s
 | .entry it=>qq (aZ a it) s
 | .extract t i=>match aZ a t with
   | .tuple vs=>val s vs[i]?
   |_=>none
 | .call {callee:= .builtin b,args,argTypes}=>qj P b argTypes (args.toList.map (aZ a)) s
 |_=>none
end
inductive S0 where
 |ret (v:AV)
 |xM (v:AV)
inductive lq where
 |normal
 |exit (id:Nat)
 |goto (l:Nat)
 |ret
 |panic (v:AV)
abbrev Callee:=FuncId->List AV->St->Option (S0×St)
abbrev eJ:=Nat->List AV->St->Option (S0×St)
section
variable (P:Program) (C:Callee) (Y:eJ) (R:Bool)
def eK(ops:List Oper)(o:Oper)(a:bI):Option Bool:=match o.guard with
 |none=>some true
 |some (j,b)=>match(ops[j]?).bind (·.dst) with
  |none=>some false
  |some d=>match a.get d with
   | .bool c=>some (c==b)
   | .top=>none
   |_=>some false
inductive OR where
 |ok (a:bI) (s:St)
 |xM (a:bI) (v:AV) (s:St)
 |no
def WK(a:bI)(dst:Option Tmp):Option (S0×St)->OR
 |some (.ret v,s)=> .ok (a.put dst v) s
 |some (.xM v,s)=> .xM a v s
 |none=> .no
def ij(a:bI)(o:Oper)(s:St):Option (S0×St):=
 match o.op with
 | .call {callee:= .value g,args,..}=>match aZ a g with
   | .func f first cap=>C f (first++args.toList.map (aZ a)++cap) s
   | .yield b=>Y b (args.toList.map (aZ a)) s
   |_=>none
 | .panic x=>match aZ a x with
   | .iface t v=>some (.xM (.iface t v),s)
   |_=>none
 | .defer _=>none
 |op=>match aop P a op s with
  |some (v,s)=>some (.ret v,s)
  |none=>none
def wH(a:bI)(o:Oper)(s:St):OR:=
 match o.op with
 | .defer {callee:= .value g,args,..}=>match aZ a g with
   | .func f first cap=>if R then .no else .ok ({a with defs:= .fn f (first++args.toList.map (aZ a)++cap)::a.defs}.put o.dst ig) s
   |_=> .no
 |_=>WK a o.dst (ij P C Y a o s)
def kN(ops:List Oper):List Oper->bI->St->OR
 |[],a,s=> .ok a s
 |o::rest,a,s=>match eK ops o a with
  |some true=>match wH P C Y R a o s with
   | .ok a s=>kN ops rest a s
   |r=>r
  |some false=>kN ops rest (a.put o.dst ig) s
  |none=> .no
def LE.hits:LE->LE->Bool
 | .rd _ _ _,.rd _ _ _=>false
 | .rd b i n,.wr c j m=>b==c&&decide (i<j+m)&&decide (j<i+n)
 | .wr b i n,.rd c j m=>b==c&&decide (i<j+m)&&decide (j<i+n)
 | .wr b i n,.wr c j m=>b==c&&decide (i<j+m)&&decide (j<i+n)
 |e,f=>e.blk==f.blk
structure Rec where
 log:List LE
 lo:Nat
 hi:Nat
def LE.made(r:Rec)(e:LE):Bool:=decide (r.lo<=e.blk)&&decide (e.blk<r.hi)
def LE.writes:LE->Bool
 | .rd _ _ _=>false
 |_=>true
def Rec.clash(x y:Rec):Bool:=x.log.any (fun e=>y.log.any (fun f=>e.hits f))||y.log.any (·.made x)||(x.log.any (·.writes)&&y.log.any (·.writes))
def cZ(ops:List Oper):List Nat:=
 ops.foldl (init:=[]) fun acc o=>acc++[o.after.toList.foldl (fun s e=>if Region.binds .any e then s|||2^e.on|||acc.getD e.on 0 else s) 0]
def wI(ops:List Oper)(o:Oper):List Tmp:=(o.op.operands.toList.filterMap fun| .tmp t=>some t|_=>none)++(match o.guard with|some (j,_)=>((ops[j]?).bind (·.dst)).toList|none=>[])
def Rl(ops:List Oper)(sz:Nat)(ws:List Nat):Bool:=
 ops.zipIdx.all fun(o,k)=>decide (ws.getD k 0<2^k)&&(wI ops o).all (fun t=>ops.zipIdx.all fun(p,j)=>p.dst !=some t||(ws.getD k 0).testBit j||(ws.getD j 0).testBit k)&&
  (match o.dst with|none=>true|some d=>decide (d<sz)&&ops.zipIdx.all fun(p,j)=>j==k||p.dst !=some d)
def nA(w:Nat)(r:Rec):List Rec->Nat->Bool
 |[],_=>false
 |x::l,j=>(!w.testBit j&&x.clash r)||nA w r l (j+1)
def cO(ops:List Oper):List Oper->List Nat->List Rec->bI->St->OR
 |[],_,_,a,s=> .ok a s
 |o::rest,w::ws,rs,a,s=>match eK ops o a with
  |some true=>match ij P C Y a o {s with log:=[]} with
   |some (.ret v,s')=>if nA w ⟨s'.log,s.n,s'.n⟩ rs 0 then .no else cO ops rest ws (rs++[⟨s'.log,s.n,s'.n⟩]) (a.put o.dst v) {s' with log:=s'.log++s.log}
   |_=> .no
  |some false=>cO ops rest ws (rs++[⟨[],s.n,s.n⟩]) (a.put o.dst ig) s
  |none=> .no
 |_,_,_,_,_=> .no
def rL(ops:List Oper)(draw:Bool)(a:bI)(s:St):OR:=
 if draw then(if Rl ops a.sz (cZ ops) then cO P C Y ops ops (cZ ops) [] a s else .no) else kN P C Y R ops ops a s
def YH:OR->Option (lq×bI×St)
 | .ok a s=>some (.normal,a,s)
 | .xM a v s=>some (.panic v,a,s)
 | .no=>none
mutual
def ev:Nat->Bool->Code->bI->St->Option (lq×bI×St)
 |0,_,_,_,_=>none
 |f+1,R,c,a,s=>match c with
  | .skip| .label _=>some (.normal,a,s)
  | .region _ ops draw=>YH (rL P C (fun _ _ _=>none) R ops.toList draw a s)
  | .seq x y=>match ev f R x a s with
    |some (.normal,a,s)=>ev f R y a s
    |r=>r
  | .cond c x y=>match aZ a c with
    | .bool true=>ev f R x a s
    | .bool false=>ev f R y a s
    |_=>none
  | .block id c=>match ev f R c a s with
    |some (.exit j,a,s)=>some (if j=id then .normal else .exit j,a,s)
    |r=>r
  | .loop c=>match ev f R c a s with
    |some (.normal,a,s)=>ev f R (.loop c) a s
    |r=>r
  | .exit id=>some (.exit id,a,s)
  | .goto l=>some (.goto l,a,s)
  | .ret=>some (.ret,a,s)
  | .scope c=>match ev f R c a s with
    |some (.goto l,a,s)=>jump f R c l a s
    |r=>r
  |_=>none
def jump:Nat->Bool->Code->Nat->bI->St->Option (lq×bI×St)
 |0,_,_,_,_,_=>none
 |f+1,R,c,l,a,s=>match findLabel c l with
  |some rest=>match ev f R rest a s with
   |some (.goto l,a,s)=>jump f R c l a s
   |r=>r
  |none=>none
end
end
abbrev kO:=FuncId->List AV->Option AV->St->Option (Option AV×St)
section
variable (P:Program)
def xN(a:bI):List ResultVar->St->Option (List AV×St)
 |[],s=>some ([],s)
 | .tmp t::l,s=>match xN a l s with
   |some (vs,s)=>some (a.get t::vs,s)
   |none=>none
 | .cell x t::l,s=>match mG P t (a.get x) s with
   |some (v,s)=>match xN a l s with
    |some (vs,s)=>some (v::vs,s)
    |none=>none
   |none=>none
def jbf:List AV->AV
 |[v]=>v
 |vs=> .tuple vs
def y9:List AV->Nat->bI->bI
 |[],_,a=>a
 |v::l,i,a=>y9 l (i+1) (a.oZ i v)
def sH(n:Nat)(old:List LE):List LE->List LE
 |[]=>old
 |e::l=>if e.blk<n then e::sH n old l else sH n old l
def gz(D:kO):List DE->Option AV->St->Option (Option AV×St)
 |[],p,s=>some (p,s)
 | .mark b::l,p,s=>match s.heap.get b with
   |some .defd=>gz D l p ((s.put b .dead).note (.all b))
   |_=>none
 | .fn f args::l,p,s=>match D f args p s with
   |some (p,s)=>gz D l p s
   |none=>none
def WL:lq->Option (Option AV)
 | .normal| .ret=>some none
 | .panic v=>some (some v)
 |_=>none
def body(C:Callee)(D:kO)(fuel:Nat)(f:FuncId)(args:List AV)(s:St):Option (S0×St):=
 match P.funcs[f]?with
 |some fn=>match fn.body with
  |some c=>if args.length<=fn.ntmps then match ev P C fuel false c (y9 args 0 ⟨fn.ntmps,.leaf,[]⟩) {s with log:=[]} with
   |some (e,a,s1)=>match WL e with
    |some p=>match gz D a.defs p s1 with
     |some (none,s2)=>match xN P a fn.results.toList s2 with
      |some (vs,s3)=>some (.ret (jbf vs),{s3 with log:=sH s.n s.log s3.log})
      |none=>none
     |some (some v,s2)=>some (.xM v,{s2 with log:=sH s.n s.log s2.log})
     |none=>none
    |none=>none
   |none=>none else none
  |none=>none
 |none=>none
abbrev Told:=FuncId->Option (List AV->St->Option (AV×St))
def call(O:Told)(D:kO)(fuel:Nat):Nat->Callee
 |0,_,_,_=>none
 |d+1,f,args,s=>match O f with
  |some g=>match g args s with
   |some (v,s)=>some (.ret v,s)
   |none=>body P (call O D fuel d) D fuel f args s
  |none=>body P (call O D fuel d) D fuel f args s
end
theorem Tr.mL{α:Type}(k:Nat):(Tr.leaf:Tr α).get k=none:=rfl
theorem Tr.j6{α:Type}(l r:Tr α)(v:Option α)(k:Nat):(Tr.node l v r).get k=if k=0 then v else if k%2=1 then l.get (k/2) else r.get (k/2-1):=rfl
theorem Tr.mM{α:Type}(v:α):∀(f:Nat) (t:Tr α) (k j:Nat),k+1<2^f->(Tr.xn f t k v).get j=if j=k then some v else t.get j
 |0,t,k,j,h=>by simp at h
 |f+1,t,k,j,h=>by
  rw[Nat.pow_succ] at h;have ho:k%2=1->k≠0->k/2+1<2^f:=by omega
  have he:k%2≠1->k≠0->k/2-1+1<2^f:=by omega
  cases t with
  |leaf=>
   unfold Tr.xn;by_cases h0:k=0
   ·subst h0
    simp only[if_true,Tr.j6,Tr.mL];by_cases hj:j=0
    ·simp[hj]
    ·simp[hj]
   ·by_cases h1:k%2=1
    ·simp only[if_neg h0,if_pos h1,Tr.j6,Tr.mL]
     rw[Tr.mM v f _ _ _ (ho h1 h0)];by_cases nt:j=0
     ·subst nt;simp[Ne.symm h0]
     ·by_cases Ii:j%2=1
      ·simp only[if_neg nt,if_pos Ii,Tr.mL]
       by_cases hjk:j=k
       ·subst hjk;simp
       ·rw[if_neg hjk,if_neg (by omega)]
      ·simp only[if_neg nt,if_neg Ii]
       rw[if_neg (by intro e;subst e;exact Ii h1)]
    ·simp only[if_neg h0,if_neg h1,Tr.j6,Tr.mL]
     rw[Tr.mM v f _ _ _ (he h1 h0)];by_cases nt:j=0
     ·subst nt;simp[Ne.symm h0]
     ·by_cases Ii:j%2=1
      ·simp only[if_neg nt,if_pos Ii]
       rw[if_neg (by intro e;subst e;exact h1 Ii)]
      ·simp only[if_neg nt,if_neg Ii,Tr.mL]
       by_cases hjk:j=k
       ·subst hjk;simp
       ·rw[if_neg hjk,if_neg (by omega)]
  |node l u r=>
   unfold Tr.xn;by_cases h0:k=0
   ·subst h0
    simp only[if_true,Tr.j6];by_cases hj:j=0
    ·simp[hj]
    ·simp[hj]
   ·by_cases h1:k%2=1
    ·simp only[if_neg h0,if_pos h1,Tr.j6]
     rw[Tr.mM v f _ _ _ (ho h1 h0)];by_cases nt:j=0
     ·subst nt;simp[Ne.symm h0]
     ·by_cases Ii:j%2=1
      ·simp only[if_neg nt,if_pos Ii]
       by_cases hjk:j=k
       ·subst hjk;simp
       ·rw[if_neg hjk,if_neg (by omega)]
      ·simp only[if_neg nt,if_neg Ii]
       rw[if_neg (by intro e;subst e;exact Ii h1)]
    ·simp only[if_neg h0,if_neg h1,Tr.j6]
     rw[Tr.mM v f _ _ _ (he h1 h0)];by_cases nt:j=0
     ·subst nt;simp[Ne.symm h0]
     ·by_cases Ii:j%2=1
      ·simp only[if_neg nt,if_pos Ii]
       rw[if_neg (by intro e;subst e;exact h1 Ii)]
      ·simp only[if_neg nt,if_neg Ii]
       by_cases hjk:j=k
       ·subst hjk;simp
       ·rw[if_neg hjk,if_neg (by omega)]
theorem Tr.iD{α:Type}(v:α)(t:Tr α)(k j:Nat):(t.set k v).get j=if j=k then some v else t.get j:=by
 refine Tr.mM v _ t k j ?_;have h:=Nat.lt_log2_self (n:=k);rw[Nat.pow_succ];omega
structure RB where
 blk:Nat
 base:Nat
 n:Nat
abbrev Env:=Nat->Option RB
def RB.at(r:RB)(off:Nat):Addr:=⟨r.blk,r.base+off,none⟩
mutual
inductive VR(ρ:Env):AV->Value->Prop
 |top (v:Value):VR ρ .top v
 |bool (b:Bool):VR ρ (.bool b) (.bool b)
 |int (k:IntKind) (n:Int):VR ρ (.int k n) (.int k n)
 |str (l:List Nat) (h:∀x∈l,x<256):VR ρ (.str l) (.string ⟨(l.map UInt8.ofNat).toArray⟩)
 |ptr (b off:Nat) (r:RB) (h:ρ b=some r):VR ρ (.ptr b off) (.pointer (some (r.at off)))
 |kK:VR ρ .kK (.pointer none)
 |slice (b off len mc es:Nat) (r:RB) (ad:Addr) (cap:Nat) (h:ρ b=some r) (h1:len<=mc) (h2:mc<=cap) (h3:cap=0\/ad=r.at off/\off+cap*es<=r.n):VR ρ (.slice b off len mc es) (.slice (some ad) len cap)
 |iw:VR ρ .iw (.slice none 0 0)
 |map (b:Nat) (r:RB) (h:ρ b=some r):VR ρ (.map b) (.map (some r.blk))
 |mD:VR ρ .mD (.map none)
 |func (f:FuncId) (k l:List AV) (k' l':Array Value) (h1:bO ρ k k'.toList) (h2:bO ρ l l'.toList):VR ρ (.func f k l) (.func (.func f) k' l')
 |qd:VR ρ .qd .nilFunc
 |iface (t:TypeId) (a:AV) (v:Value) (h:VR ρ a v):VR ρ (.iface t a) (.iface t v)
 |kL:VR ρ .kL .nilIface
 |agg (cs:List AV) (cs':Array Value) (h:bO ρ cs cs'.toList):VR ρ (.agg cs) (.agg cs')
 |tuple (cs:List AV) (cs':Array Value) (h:bO ρ cs cs'.toList):VR ρ (.tuple cs) (.tuple cs')
 |yield (b:Nat) (r:RB) (h:ρ b=some r):VR ρ (.yield b) (.func (.yield r.blk) #[] #[])
inductive bO (ρ:Env):List AV->List Value->Prop
 |nil:bO ρ [] []
 |cons (a:AV) (v:Value) (l:List AV) (vs:List Value) (h:VR ρ a v) (t:bO ρ l vs):bO ρ (a::l) (v::vs)
end
def Env.le(ρ ρ':Env):Prop:=∀b r,ρ b=some r->ρ' b=some r
theorem Env.le_refl(ρ:Env):ρ.le ρ:=fun _ _ h=>h
theorem Env.le_trans{ρ ρ' jbg:Env}(h:ρ.le ρ')(k:ρ'.le jbg):ρ.le jbg:=fun b r hb=>k b r (h b r hb)
mutual
theorem VR.mono{ρ ρ':Env}(hr:ρ.le ρ'):∀{a:AV} {v:Value},VR ρ a v->VR ρ' a v
 |_,_,.top v=> .top v
 |_,_,.bool b=> .bool b
 |_,_,.int k n=> .int k n
 |_,_,.str l h=> .str l h
 |_,_,.ptr b off r h=> .ptr b off r (hr b r h)
 |_,_,.kK=> .kK
 |_,_,.slice b off len mc es r ad cap h h1 h2 h3=> .slice b off len mc es r ad cap (hr b r h) h1 h2 h3
 |_,_,.iw=> .iw
 |_,_,.map b r h=> .map b r (hr b r h)
 |_,_,.mD=> .mD
 |_,_,.func f k l k' l' h1 h2=> .func f k l k' l' (bO.mono hr h1) (bO.mono hr h2)
 |_,_,.qd=> .qd
 |_,_,.iface t a v h=> .iface t a v (VR.mono hr h)
 |_,_,.kL=> .kL
 |_,_,.agg cs cs' h=> .agg cs cs' (bO.mono hr h)
 |_,_,.tuple cs cs' h=> .tuple cs cs' (bO.mono hr h)
 |_,_,.yield b r h=> .yield b r (hr b r h)
theorem bO.mono {ρ ρ':Env} (hr:ρ.le ρ'):∀{l:List AV} {vs:List Value},bO ρ l vs->bO ρ' l vs
 |_,_,.nil=> .nil
 |_,_,.cons a v l vs h t=> .cons a v l vs (VR.mono hr h) (bO.mono hr t)
end
section
variable {ρ:Env}
theorem bO.length:∀{l:List AV} {vs:List Value},bO ρ l vs->vs.length=l.length
 |_,_,.nil=>rfl
 |_,_,.cons a v l vs h t=>by simp[bO.length t]
theorem bO.get:∀{l:List AV} {vs:List Value} (i:Nat) {a:AV},bO ρ l vs->l[i]? =some a->∃v,vs[i]? =some v/\VR ρ a v
 |_,_,i,_,.nil,h=>by simp at h
 |_,_,0,_,.cons a v l vs hv t,h=>by simp at h;subst h;exact⟨v,rfl,hv⟩
 |_,_,i+1,_,.cons a v l vs hv t,h=>by simp at h;simpa using bO.get i t h
theorem bO.wJ:∀{l:List AV} {vs:List Value},vs.length=l.length->(∀(i:Nat) (a:AV) (v:Value),l[i]? =some a->vs[i]? =some v->VR ρ a v)->bO ρ l vs
 |[],[],_,_=> .nil
 |a::l,v::vs,hl,h=> .cons a v l vs (h 0 a v rfl rfl) (bO.wJ (by simpa using hl) (fun i a v h1 h2=>h (i+1) a v (by simpa using h1) (by simpa using h2)))
 |[],_::_,hl,_=>by simp at hl
 |_::_,[],hl,_=>by simp at hl
theorem bO.append:∀{l k:List AV} {vs us:List Value},bO ρ l vs->bO ρ k us->bO ρ (l++k) (vs++us)
 |_,_,_,_,.nil,h=>h
 |_,_,_,_,.cons a v l vs hv t,h=> .cons a v _ _ hv (bO.append t h)
theorem bO.drop:∀(n:Nat) {l:List AV} {vs:List Value},bO ρ l vs->bO ρ (l.drop n) (vs.drop n)
 |0,_,_,h=>h
 |n+1,_,_,.nil=> .nil
 |n+1,_,_,.cons a v l vs hv t=>by simpa using bO.drop n t
theorem bO.take:∀(n:Nat) {l:List AV} {vs:List Value},bO ρ l vs->bO ρ (l.take n) (vs.take n)
 |0,_,_,h=> .nil
 |n+1,_,_,.nil=> .nil
 |n+1,_,_,.cons a v l vs hv t=>by simpa using bO.cons a v _ _ hv (bO.take n t)
theorem bO.map{α:Type}(f:α->AV)(g:α->Value):∀(l:List α),(∀x∈l,VR ρ (f x) (g x))->bO ρ (l.map f) (l.map g)
 |[],_=> .nil
 |x::l,h=> .cons _ _ _ _ (h x (by simp)) (bO.map f g l (fun y hy=>h y (by simp[hy])))
theorem bO.one{a:AV}{v:Value}(h:VR ρ a v):bO ρ [a] [v]:= .cons _ _ _ _ h .nil
theorem YI(s:ByteArray):∀x∈bytesOf s,x<256:=by
 intro x hx;simp only[bytesOf,List.mem_map] at hx;obtain⟨u,_,rfl⟩:=hx;exact u.toNat_lt
theorem Ij(s:ByteArray):(⟨((bytesOf s).map UInt8.ofNat).toArray⟩:ByteArray)=s:=by
 have:(bytesOf s).map UInt8.ofNat=s.data.toList:=by
  unfold bytesOf;rw[List.map_map];have:UInt8.ofNat∘UInt8.toNat=id:=by funext b;simp
  rw[this,List.map_id]
 rw[this]
theorem VR.string(s:ByteArray):VR ρ (.str (bytesOf s)) (.string s):=by
 have h:=VR.str (ρ:=ρ) (bytesOf s) (YI s)
 rwa [Ij] at h
theorem BH:∀(n:Nat) (v:Value),VR ρ (SZ n v) v:=by
 intro n
 induction n with
 |zero=>
  intro v;cases v with
  |bool b=>exact .bool b
  |int k m=>exact .int k m
  |string s=>exact VR.string s
  |pointer a=>cases a with
   |none=>exact .kK
   |some a=>exact .top _
  |slice a l c=>unfold SZ;split<;>simp_all<;>first|exact .iw|exact .top _
  |map r=>cases r with
   |none=>exact .mD
   |some a=>exact .top _
  |nilFunc=>exact .qd
  |nilIface=>exact .kL
  |_=>exact .top _
 |succ n ih=>
  intro v;cases v with
  |bool b=>exact .bool b
  |int k m=>exact .int k m
  |string s=>exact VR.string s
  |pointer a=>cases a with
   |none=>exact .kK
   |some a=>exact .top _
  |slice a l c=>unfold SZ;split<;>simp_all<;>first|exact .iw|exact .top _
  |map r=>cases r with
   |none=>exact .mD
   |some a=>exact .top _
  |nilFunc=>exact .qd
  |nilIface=>exact .kL
  |agg cs=>
   refine .agg _ _ ?_;have h:=bO.map (ρ:=ρ) (SZ n) id cs.toList (fun x _=>ih x);simpa using h
  |tuple cs=>
   refine .tuple _ _ ?_;have h:=bO.map (ρ:=ρ) (SZ n) id cs.toList (fun x _=>ih x);simpa using h
  |_=>exact .top _
theorem mN{a:AV}{v:Value}{cs:List AV}(h:VR ρ a v)(hc:oY a=some cs):bO ρ cs v.cells.toList:=by
 cases h<;>simp[oY] at hc<;>subst hc<;>first|assumption|(refine bO.one ?_;constructor<;>assumption)|(exact bO.one (by assumption))
theorem YJ{a:AV}{v:Value}(h:VR ρ a v)(ho:one a=true):v.oneCell'=true:=by
 cases h<;>simp[one] at ho<;>rfl
end
def LE.at(e:LE)(b i:Nat):Prop:=match e with
 | .rd c j n| .wr c j n=>c=b/\j<=i/\i<j+n
 | .all c=>c=b
def Cov(T:Nat->Nat->Prop)(e:LE):Prop:=∀b i,e.at b i->T b i
def Fits(t:Nat)(r:RB)(n:Nat):Prop:=n<=r.n/\(t%2=1->r.base=0/\r.n=n)
theorem Fits.even(t:Nat){r:RB}{n:Nat}(h:n<=r.n):Fits (2*t) r n:=⟨h,fun h=>by omega⟩
theorem Rm(t:Nat):2*t/2=t:=by omega
theorem nB(t:Nat):(2*t+1)/2=t:=by omega
def live:bK->Prop
 | .dead=>False
 |_=>True
def MK(ready:Bool)(p:Option Code):LoopState:=if ready then .ready else if p.isNone then .busy else .done
def BR(ρ:Env)(T:Nat->Prop)(b:Nat)(w:World):bK->Prop
 | .cells t cs=>∃r c fr,ρ b=some r/\w.heap[r.blk]? =some (.cells c (t/2) fr)/\c.size=r.base+r.n/\Fits t r cs.length/\(∀o,r.base<=o->o<c.size->(decide (fr.1<=o)&&decide (o<fr.2))=false)/\∀i a,cs[i]? =some a->T i->∃v,c[r.base+i]? =some v/\VR ρ a v
 | .map es clock=>∃r es',ρ b=some r/\w.heap[r.blk]? =some (.map es' clock)/\(bO ρ (es.map (·.k)) (es'.toList.map (·.key))/\bO ρ (es.map (·.v)) (es'.toList.map (·.val))/\es.map (·.born)=es'.toList.map (·.born))
 | .eE m since seen last=>∃r m',ρ b=some r/\r.base=0/\w.heap[r.blk]? =some (.mapIter m' since seen.toArray last)/\(match m with|none=>m'=none|some m=>∃q,ρ m=some q/\m'=some q.blk)
 | .i1 l pos=>∃r,ρ b=some r/\r.base=0/\w.heap[r.blk]? =some (.stringIter ⟨(l.map UInt8.ofNat).toArray⟩ pos)/\∀x∈l,x<256
 | .pmap es=>∃r es' el clock,ρ b=some r/\w.heap[r.blk]? =some (.map es' clock)/\List.Perm el es/\(bO ρ (el.map (·.k)) (es'.toList.map (·.key))/\bO ρ (el.map (·.v)) (es'.toList.map (·.val)))
 | .defd=>∃r,ρ b=some r/\w.heap[r.blk]? =some (.deferred (some []))
 | .loop ready p sz tmps ps assign body d=>∃r fn zb q,ρ b=some r/\ρ d=some q/\w.heap[r.blk]? =some (.loop {state:=MK ready p,pending:=p,fn:=fn,tmps:=zb,params:=ps.toArray,assign:=assign,body:=body,defers:=q.blk})/\zb.size=sz/\∀t,VR ρ ((tmps.get t).getD (.tuple [])) (zb.getD t undef)
 | .dead=>True
def ML(ρ:Env)(log:List LE)(B o:Nat):Prop:=∃e∈log,∃r,ρ e.blk=some r/\r.blk=B/\(match e with| .rd _ _ _=>False| .wr _ i n=>r.base+i<=o/\o<r.base+i+n| .all _=>True)
def All(ρ:Env)(log:List LE)(B:Nat):Prop:=∃b r,LE.all b∈log/\ρ b=some r/\r.blk=B
structure rM(ρ:Env)(log:List LE)(w w':World):Prop where
 os:w'.os=w.os
 tape:w'.tape=w.tape
 output:w'.output=w.output
 size:w.heap.size<=w'.heap.size
 block:∀B,B<w.heap.size->(∀o,¬ML ρ log B o)->w'.heap[B]? =w.heap[B]?
 cells:∀B c t fr,w.heap[B]? =some (.cells c t fr)->¬All ρ log B->∃c',w'.heap[B]? =some (.cells c' t fr)/\c'.size=c.size/\∀o,¬ML ρ log B o->c'[o]? =c[o]?
structure Good(ρ:Env)(T:Nat->Nat->Prop)(h:Nat->Option bK)(w:World):Prop where
 sat:∀b x,h b=some x->(∃i,T b i)->BR ρ (T b) b w x
 inj:∀b b' r r' x x',h b=some x->h b'=some x'->live x->live x'->(∃i,T b i)->(∃i,T b' i)->ρ b=some r->ρ b'=some r'->r.blk=r'.blk->b=b'
 old:∀b r,ρ b=some r->r.blk<w.heap.size
def ki(s:St):Prop:=∀b,s.n<=b->s.heap.get b=none
def LE.wrote(e:LE)(b i:Nat):Prop:=match e with
 | .wr c j n=>c=b/\j<=i/\i<j+n
 |_=>False
def fq(log:List LE)(b:Nat):bK->Option bK->Prop
 | .cells t cs,y=>∃cs',y=some (.cells t cs')/\cs'.length=cs.length/\∀i,(∀e∈log,¬e.wrote b i)->cs'[i]? =cs[i]?
 |x,y=>y=some x
theorem fq.refl(log:List LE)(b:Nat)(x:bK):fq log b x (some x):=by
 cases x<;>first|rfl|exact⟨_,rfl,rfl,fun _ _=>rfl⟩
theorem fq.mono{l l':List LE}(hl:∀e∈l,e∈l'){b:Nat}{x:bK}{y:Option bK}(h:fq l b x y):fq l' b x y:=by
 cases x with
 |cells t cs=>obtain⟨cs',h1,h2,h3⟩:=h;exact⟨cs',h1,h2,fun i hi=>h3 i (fun e he=>hi e (hl e he))⟩
 |_=>exact h
theorem fq.trans{l l':List LE}(hl:∀e∈l,e∈l'){b:Nat}{x y:bK}{z:Option bK}(h:fq l b x (some y))(k:fq l' b y z):fq l' b x z:=by
 cases x with
 |cells t cs=>
  obtain⟨cs',h1,h2,h3⟩:=h;cases h1;obtain⟨cs2,k1,k2,k3⟩:=k;exact⟨cs2,k1,k2.trans h2,fun i hi=>(k3 i hi).trans (h3 i (fun e he=>hi e (hl e he)))⟩
 |_=>cases h;exact k
theorem fq.some{l:List LE}{b:Nat}{x:bK}{y:Option bK}(h:fq l b x y):∃z,y=some z:=by
 cases x with
 |cells t cs=>obtain⟨cs',h1,_⟩:=h;exact⟨_,h1⟩
 |_=>exact⟨_,h⟩
structure aF(s s':St):Prop where
 n:s.n<=s'.n
 log:∀e∈s.log,e∈s'.log
 wf:ki s->ki s'
 keep:ki s->∀b x,s.heap.get b=some x->LE.all b∉s'.log->fq s'.log b x (s'.heap.get b)
 lv:ki s->∀b x',b<s.n->s'.heap.get b=some x'->live x'->∃x,s.heap.get b=some x/\live x
 lw:ki s->∀e∈s'.log,e∈s.log\/s.n<=e.blk\/∃x,s.heap.get e.blk=some x/\live x
 lb:ki s->(∀e∈s.log,e.blk<s.n)->∀e∈s'.log,e.blk<s'.n
theorem aF.refl(s:St):aF s s:=⟨n_,fun _ h=>h,fun h=>h,fun _ b x h _=>by rw[h];exact fq.refl _ _ _,fun _ _ x' _ h hl=>⟨x',h,hl⟩,fun _ _ h=> .inl h,fun _ h=>h⟩
theorem aF.trans{a b c:St}(h:aF a b)(k:aF b c):aF a c:=⟨t_ h.n k.n,fun e he=>k.log e (h.log e he),fun hw=>k.wf (h.wf hw),fun hw i x hx hn=>by
 have h1:=h.keep hw i x hx (fun hm=>hn (k.log _ hm));obtain⟨z,hz⟩:=h1.some;rw[hz] at h1;exact h1.trans k.log (k.keep (h.wf hw) i z hz hn),fun hw i x' hi hx hl=>by
 obtain⟨y,hy,mO⟩:=k.lv (h.wf hw) i x' (l_ hi h.n) hx hl;exact h.lv hw i y hi hy mO,fun hw e he=>by
 rcases k.lw (h.wf hw) e he with h1|h1|⟨x,h1,h2⟩
 ·exact h.lw hw e h1
 ·exact .inr (.inl (t_ h.n h1))
 ·by_cases hb:e.blk<a.n
  ·exact .inr (.inr (h.lv hw _ x hb h1 h2))
  ·exact .inr (.inl (Nat.not_lt.1 hb)),fun hw hl=>k.lb (h.wf hw) (h.lb hw hl)⟩
def Tn(T:Nat->Nat->Prop)(n n':Nat):Nat->Nat->Prop:=fun b i=>T b i\/n<=b/\b<n'
structure Pre(ρ:Env)(T:Nat->Nat->Prop)(s s':St)(w:World):Prop where
 good:Good ρ T s.heap.get w
 o8:∀e∈s'.log,e.blk<s.n->Cov T e
 fresh:∀b,s.n<=b->b<s'.n->ρ b=none
 wf:ki s
 tn:∀b i,T b i->b<s.n
structure Post(ρ:Env)(T:Nat->Nat->Prop)(s:St)(w:World)(ρ':Env)(s':St)(w':World):Prop where
 ext:ρ.le ρ'
 new:∀b r,ρ' b=some r->ρ b=some r\/s.n<=b/\b<s'.n
 fr:∀b r,ρ b=none->ρ' b=some r->r.blk<w.heap.size->All ρ s'.log r.blk
 good:Good ρ' (Tn T s.n s'.n) s'.heap.get w'
 fG:rM ρ s'.log w w'
theorem rM.refl(ρ:Env)(log:List LE)(w w':World)(ho:w'.os=w.os)(ht:w'.tape=w.tape)(hp:w'.output=w.output)(hh:w'.heap=w.heap):rM ρ log w w':=
 ⟨ho,ht,hp,by rw[hh];exact n_,fun _ _ _=>by rw[hh],fun B c t fr h _=>⟨c,by rw[hh];exact h,rfl,fun _ _=>rfl⟩⟩
theorem ML.mono{ρ ρ':Env}{l l':List LE}{B o:Nat}(h:ML ρ l B o)(hr:ρ.le ρ')(hl:∀e∈l,e∈l'):ML ρ' l' B o:=by
 obtain⟨e,he,r,h1,h2,h3⟩:=h;exact⟨e,hl e he,r,hr _ _ h1,h2,h3⟩
theorem All.mono{ρ ρ':Env}{l l':List LE}{B:Nat}(h:All ρ l B)(hr:ρ.le ρ')(hl:∀e∈l,e∈l'):All ρ' l' B:=by
 obtain⟨b,r,h1,h2,h3⟩:=h;exact⟨b,r,hl _ h1,hr _ _ h2,h3⟩
theorem All.wrt{ρ:Env}{l:List LE}{B:Nat}(h:All ρ l B)(o:Nat):ML ρ l B o:=by
 obtain⟨b,r,h1,h2,h3⟩:=h;exact⟨.all b,h1,r,h2,h3,trivial⟩
theorem ML.back{ρ iI:Env}{l l1:List LE}{w:World}{B o:Nat}(hB:B<w.heap.size)(hl:∀e∈l,e∈l1)(Ik:ρ.le iI)(vn:∀b r,ρ b=none->iI b=some r->r.blk<w.heap.size->All ρ l r.blk)(h:ML iI l1 B o):ML ρ l1 B o:=by
 obtain⟨e,he,r,h1,h2,h3⟩:=h;cases hb:ρ e.blk with
 |none=>
  have:=vn _ r hb h1 (by omega);rw[h2] at this;exact(this.mono (Env.le_refl ρ) hl).wrt o
 |some r0=>
  have:r0=r:=i_ ((Ik _ _ hb).symm.trans h1);subst this;exact⟨e,he,r0,hb,h2,h3⟩
theorem All.back{ρ iI:Env}{l l1:List LE}{w:World}{B:Nat}(hB:B<w.heap.size)(hl:∀e∈l,e∈l1)(Ik:ρ.le iI)(vn:∀b r,ρ b=none->iI b=some r->r.blk<w.heap.size->All ρ l r.blk)(h:All iI l1 B):All ρ l1 B:=by
 obtain⟨b,r,h1,h2,h3⟩:=h;cases hb:ρ b with
 |none=>
  have:=vn _ r hb h2 (by omega);rw[h3] at this;exact this.mono (Env.le_refl ρ) hl
 |some r0=>
  have:r0=r:=i_ ((Ik _ _ hb).symm.trans h2);subst this;exact⟨b,r0,h1,hb,h3⟩
theorem jb{w:World}{B:Nat}{o:Obj}(h:w.heap[B]? =some o):B<w.heap.size:=(Array.getElem?_eq_some_iff.1 h).1
theorem rM.trans{ρ iI:Env}{l l1:List LE}{w w1 w2:World}(h:rM ρ l w w1)(k:rM iI l1 w1 w2)(hl:∀e∈l,e∈l1)(Ik:ρ.le iI)(vn:∀b r,ρ b=none->iI b=some r->r.blk<w.heap.size->All ρ l r.blk):rM ρ l1 w w2:=by
 refine⟨k.os.trans h.os,k.tape.trans h.tape,k.output.trans h.output,t_ h.size k.size,fun B hB hn=> ?_,fun B c t fr hc MM=> ?_⟩
 ·rw[k.block B (l_ hB h.size) (fun o hw=>hn o (hw.back hB hl Ik vn)),h.block B hB (fun o hw=>hn o (hw.mono (Env.le_refl ρ) hl))]
 ·have hB:=jb hc
  obtain⟨c1,h1,hs1,XI⟩:=h.cells B c t fr hc (fun ha=>MM (ha.mono (Env.le_refl ρ) hl));obtain⟨c2,h2,hs2,yg⟩:=k.cells B c1 t fr h1 (fun ha=>MM (ha.back hB hl Ik vn));exact⟨c2,h2,hs2.trans hs1,fun o ho=>(yg o (fun hw=>ho (hw.back hB hl Ik vn))).trans (XI o (fun hw=>ho (hw.mono (Env.le_refl ρ) hl)))⟩
theorem Rn{T:Nat->Nat->Prop}{a b c:Nat}(h1:a<=b)(h2:b<=c):Tn (Tn T a b) b c=Tn T a c:=by
 funext x i;unfold Tn;apply propext;constructor
 ·rintro((h|h)|h)
  ·exact .inl h
  ·exact .inr ⟨h.1,by omega⟩
  ·exact .inr ⟨by omega,h.2⟩
 ·rintro(h|h)
  ·exact .inl (.inl h)
  ·by_cases hb:x<b
   ·exact .inl (.inr ⟨h.1,hb⟩)
   ·exact .inr ⟨by omega,h.2⟩
theorem Pre.first{ρ:Env}{T:Nat->Nat->Prop}{s s1 s2:St}{w:World}(h:Pre ρ T s s2 w)(m2:aF s1 s2):Pre ρ T s s1 w:=
 ⟨h.good,fun e he hb=>h.o8 e (m2.log e he) hb,fun b h1 h2=>h.fresh b h1 (l_ h2 m2.n),h.wf,h.tn⟩
theorem Pre.next{ρ iI:Env}{T:Nat->Nat->Prop}{s s1 s2:St}{w w1:World}(h:Pre ρ T s s2 w)(m1:aF s s1)(m2:aF s1 s2)(k:Post ρ T s w iI s1 w1):Pre iI (Tn T s.n s1.n) s1 s2 w1:=
 ⟨k.good,fun e he hb=>by
  intro b i hbi;have Fx:e.blk=b:=by cases e<;>first|exact hbi.1|exact hbi
  by_cases hs:e.blk<s.n
  ·exact .inl (h.o8 e he hs b i hbi)
  ·exact .inr ⟨by omega,by omega⟩,fun b h1 h2=>by
  cases hb:iI b with
  |none=>rfl
  |some r=>
   rcases k.new b r hb with h3|h3
   ·rw[h.fresh b (t_ m1.n h1) h2] at h3;cases h3
   ·omega,m1.wf h.wf,fun b i hb=>by
  rcases hb with hb|hb
  ·exact l_ (h.tn b i hb) m1.n
  ·exact hb.2⟩
theorem Post.trans{ρ iI WM:Env}{T:Nat->Nat->Prop}{s s1 s2:St}{w w1 w2:World}(m1:aF s s1)(m2:aF s1 s2)(h:Post ρ T s w iI s1 w1)(k:Post iI (Tn T s.n s1.n) s1 w1 WM s2 w2):Post ρ T s w WM s2 w2:=
 ⟨Env.le_trans h.ext k.ext,fun b r hb=>by
  rcases k.new b r hb with h3|h3
  ·rcases h.new b r h3 with h4|h4
   ·exact .inl h4
   ·have:=m2.n;exact .inr ⟨h4.1,by omega⟩
  ·have:=m1.n;exact .inr ⟨by omega,h3.2⟩,fun b r hb hr hlt=>by
  cases h1:iI b with
  |some r1=>
   have:r1=r:=i_ ((k.ext _ _ h1).symm.trans hr);subst this;exact(h.fr b r1 hb h1 hlt).mono (Env.le_refl ρ) m2.log
  |none=>exact(k.fr b r h1 hr (l_ hlt h.fG.size)).back hlt m2.log h.ext (fun b r h1 h2 h3=>h.fr b r h1 h2 h3),by
  have:=k.good
  rwa [Rn m1.n m2.n] at this,h.fG.trans k.fG m2.log h.ext (fun b r h1 h2 h3=>h.fr b r h1 h2 h3)⟩
end Go.Proofs.YtpohlhkgbmdieaaGreatDoor.Rk
