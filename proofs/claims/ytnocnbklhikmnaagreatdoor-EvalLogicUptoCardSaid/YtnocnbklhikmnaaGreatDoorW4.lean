/- Part 4 of the proof. -/
import Derived.Test.YtnocnbklhikmnaaGreatDoorW0
import Derived.Lib.Bytealg
import Derived.Test.YtnocnbklhikmnaaGreatDoorProg
import Derived.WalkKit
import Derived.WalkSpells
import Derived.WalkLawsBesides
import Derived.Lib.Hide
import Derived.Deep.DeepMust
import Derived.Deep.DeepFit
import Derived.Deep.LoopGhost
import Derived.Deep.Draws
import Derived.Laws.Rows
import Derived.Laws.MakeOwn
import Derived.Laws.BytesArg
import Derived.Deep.QuietTactic
import Derived.Deep.OwnRows
import Derived.StillTail
import Derived.Deep.MidRow
import Derived.Laws.BitsAllLaws
import Derived.Laws.BitsLemmas
import Derived.OwnWalk
import Derived.Laws.OwnMore
import Derived.StillTailTactics
import Derived.Deep.RegionLaw
import Derived.Maps.AppendAt
import Derived.Deep.AppendLies
import Derived.Maps.Keyed
import Derived.Maps.Own
import Derived.Shelf.Strings.Builder1
import Derived.Shelf.Strings.Trim
import Derived.Shelf.Small.Utf8
import Derived.Shelf.Small.Strs
import Derived.Shelf.Small.Wraps
import Derived.Shelf.Strings.BuilderF
import Derived.Shelf.Strings.BuilderK
import Derived.Shelf.LaysM
import Derived.Shelf.Strconv.Clone
import Derived.Shelf.Strings.Search1
import Derived.Shelf.Strings.Search2
import Derived.Shelf.Strings.Search3
import Derived.Shelf.Strings.Cut
import Derived.Shelf.Strings.Count
import Derived.Shelf.Strings.Shaped
import Derived.Shelf.Strings.Prefix
import Derived.Shelf.Unicode.Decode
import Derived.Shelf.Strings.Runes
import Derived.Shelf.Strings.AsciiSet
import Derived.Shelf.Unicode.DecodeSlow
import Derived.Shelf.Unicode.DecodeAny
import Derived.Shelf.Unicode.DecodeLast
import Derived.Shelf.Strings.BuilderCap
import Derived.Shelf.Slices.Turned
import Derived.Shelf.Slices.Equal
import Derived.Shelf.Slices.Empties2
import Derived.Shelf.Strings.SlTrimAscii
import Derived.Lib.SlTrimSet
import Derived.BigQuiet
import Derived.Laws.StructEq
import Derived.Lib.Index
import Derived.Lib.Split
import Derived.DeepKeys4
import Derived.Lib.IndexBytes
import Derived.Lib.ConvBytes
import Derived.StringKeys
set_option linter.unusedVariables false
set_option maxRecDepth 1000000
set_option maxHeartbeats 16000000
namespace Go.Proofs.YtnocnbklhikmnaaGreatDoor.P
variable{L:List UInt8}{i:Nat}

def digitsN(fuel n:Nat):List UInt8:=match fuel with
 |0=>[]
 |f+1=>(if n/10=0 then[] else digitsN f (n/10))++[UInt8.ofNat (48+n%10)]
def digits(v:Int):List UInt8:=(if v<0 then[45] else[])++digitsN 20 v.natAbs
theorem digitsN_length(f:Nat):∀n k:Nat,1<=k->n<10^k->(digitsN f n).length<=k:=by
 induction f with
 |zero=>intro n k _ _;simp[digitsN]
 |succ f ih=>
  intro n k hk hn;unfold digitsN;split
  ·simp;omega
  ·rename_i h
   have hk2:2<=k:=by
    rcases Nat.lt_or_ge k 2 with h2|h2
    ·have:k=1:=by omega
     subst this;omega
    ·exact h2
   have h3:n/10<10^(k-1):=by
    rw[Nat.div_lt_iff_lt_mul (by omega),<-Nat.pow_succ,show(k-1).succ=k from by omega];exact hn
   have:=ih (n/10) (k-1) (by omega) h3;simp;omega
def may(c:UInt8):Bool:=decide (33<=c.toNat/\c.toNat<=126/\¬(97<=c.toNat/\c.toNat<=122)/\¬(65<=c.toNat/\c.toNat<=90)/\¬(48<=c.toNat/\c.toNat<=57))
def okUp(L:List UInt8)(i:Nat):Prop:=∀a,a<i->may (L.getD a 0)=true/\∀b,b<a->L.getD b 0≠L.getD a 0
instance (L:List UInt8) (i:Nat):Decidable (okUp L i):=by unfold okUp;infer_instance
def valid(L:List UInt8):Bool:=decide (okUp L 5)
def dflt:List UInt8:=[124,94,126,92,38]
theorem valid_dflt:valid dflt=true:=by decide
theorem okUp_succ(h:okUp L i)(hm:may (L.getD i 0)=true)(hd:∀b,b<i->L.getD b 0≠L.getD i 0):okUp L (i+1):=by
 intro a ha;rcases Nat.lt_or_ge a i with h1|h1
 ·exact h a h1
 ·have:a=i:=by omega
  subst this;exact⟨hm,hd⟩
theorem bad_may(hi:i<5)(hm:may (L.getD i 0)=false):valid L=false:=by
 apply decide_eq_false;intro h;have:=(h i hi).1;rw[hm] at this;cases this
theorem bad_twice{b:Nat}(hi:i<5)(hb:b<i)(h:L.getD b 0=L.getD i 0):valid L=false:=by
 apply decide_eq_false;intro h2;exact(h2 i hi).2 b hb h
def nib(c:UInt8):Int:=
 if 48<=c.toNat/\c.toNat<=57 then(c.toNat:Int)-48 else if 97<=c.toNat/\c.toNat<=102 then(c.toNat:Int)-87 else if 65<=c.toNat/\c.toNat<=70 then(c.toNat:Int)-55 else-1
theorem nib_lt(c:UInt8): -1<=nib c/\nib c<16:=by unfold nib;omega
def unhex:List UInt8->Option (List UInt8)
 |[]=>some []
 |[_]=>none
 |a::b::r=>if nib a<0\/nib b<0 then none else(unhex r).map (UInt8.ofNat (16*(nib a).toNat+(nib b).toNat)::·)
def unhexS(l:List UInt8):List UInt8:=(unhex l).getD []
def unhexE(l:List UInt8):Int:=if(unhex l).isSome then 0 else 10
theorem unhex_odd:∀(l:List UInt8),l.length%2=1->unhex l=none
 |[],h=>by simp at h
 |[_],_=>rfl
 |a::b::r,h=>by
  unfold unhex;split
  ·rfl
  ·rw[unhex_odd r (by simp at h;omega)];rfl
abbrev cmp:=Lib.compareBytes
end Go.Proofs.YtnocnbklhikmnaaGreatDoor.P
namespace Go.Proofs.YtnocnbklhikmnaaGreatDoor
namespace M
structure Delims where
 f:UInt8
 c:UInt8
 r:UInt8
 e:UInt8
 s:UInt8
deriving DecidableEq
structure Seg where
 name:ByteArray
 fields:List (List (List (List ByteArray)))
structure Msg where
 d:Delims
 segs:List Seg
structure Path where
 seg:ByteArray
 occ:Int
 fld:Int
 rep:Int
 comp:Int
 sub:Int
structure Node where
 op:Int
 n:Int
 text:ByteArray
 num:Int
 path:Path
structure Val where
 kind:Int
 text:ByteArray
 num:Int
 truth:Bool
structure Table where
 name:ByteArray
 entries:List (ByteArray×ByteArray)
def T(l:List UInt8):ByteArray:=⟨l.toArray⟩
def eqT(a b:ByteArray):Bool:=a.data.toList==b.data.toList
def Delims.list(d:Delims):List UInt8:=[d.f,d.c,d.r,d.e,d.s]
def msh:ByteArray:=T [77,83,72]
def upper(b:UInt8):Bool:=decide (65<=b.toNat/\b.toNat<=90)
def nameB(b:UInt8):Bool:=decide (65<=b.toNat/\b.toNat<=90)||decide (48<=b.toNat/\b.toNat<=57)
def isName(s:ByteArray):Bool:=decide (s.data.toList.length=3)&&upper (s.data.toList.getD 0 0)&&s.data.toList.all nameB
def trimEnd{β:Type}(empty:β->Bool)(l:List β):List β:=(l.reverse.dropWhile empty).reverse
theorem trimEnd_snoc{β:Type}(em:β->Bool)(l:List β)(x:β):trimEnd em (l++[x])=if em x=true then trimEnd em l else l++[x]:=by
 unfold trimEnd;rw[List.reverse_append,List.reverse_singleton,List.singleton_append,List.dropWhile_cons];by_cases h:em x=true
 ·rw[if_pos h,if_pos h]
 ·rw[if_neg h,if_neg h]
  simp
def canonC(c:List ByteArray):List ByteArray:=trimEnd (fun v=>v.data.toList.isEmpty) c
def canonR(r:List (List ByteArray)):List (List ByteArray):=trimEnd List.isEmpty (r.map canonC)
def canonF(f:List (List (List ByteArray))):List (List (List ByteArray)):=trimEnd List.isEmpty (f.map canonR)
def canonS(s:Seg):Seg:={s with fields:=trimEnd List.isEmpty (s.fields.map canonF)}
def canon(m:Msg):Msg:={m with segs:=m.segs.map canonS}
def fits(s:Seg):Bool:=decide (s.fields.length<=100)&&s.fields.all fun f=>decide (f.length<=50)&&f.all fun r=>decide (r.length<=50)&&r.all fun c=>decide (c.length<=50)
def isOne(f:List (List (List ByteArray)))(v:ByteArray):Bool:=match f with
 |[[[x]]]=>eqT x v
 |_=>false
def sign1(d:Delims):ByteArray:=T [d.f]
def sign2(d:Delims):ByteArray:=T [d.c,d.r,d.e,d.s]
def segOk(i:Nat)(s:Seg):Bool:=isName s.name&&(eqT s.name msh==decide (i=0))&&fits s
def valid(m:Msg):Bool:=P.valid m.d.list&&decide (1<=m.segs.length)&&decide (m.segs.length<=200)&&(m.segs.zipIdx.all fun(s,i)=>segOk i s)&&
 match m.segs with
 |s::_=>match s.fields with
  |a::b::_=>isOne a (sign1 m.d)&&isOne b (sign2 m.d)
  |_=>false
 |[]=>false
def at_(name:ByteArray):List Seg->Int->Int->Int
 |[],_,_=> -1
 |s::l,occ,i=>if eqT s.name name=true then(if occ=1 then i else at_ name l (occ-1) (i+1)) else at_ name l occ (i+1)
def at0(segs:List Seg)(name:ByteArray)(occ:Int):Int:=at_ name segs occ 0
def nth{β:Type}(none:β)(l:List β)(n:Int):β:=if n<1 then none else l.getD (n.toNat-1) none
def inR(n:Int):Bool:=decide (1<=n/\n<=200)
def pathOk(p:Path):Bool:=isName p.seg&&inR p.occ&&(decide (p.fld=0/\p.rep=0/\p.comp=0/\p.sub=0)||(inR p.fld&&inR p.rep&&inR p.comp&&inR p.sub))
def get(m:Msg)(p:Path):ByteArray:=
 let i:=at0 m.segs p.seg p.occ
 if pathOk p=true/\p.fld≠0/\0<=i then
  nth ByteArray.empty (nth [] (nth [] (nth [] (match m.segs[i.toNat]?with|some s=>s.fields|none=>[]) p.fld) p.rep) p.comp) p.sub
 else ByteArray.empty
def has(m:Msg)(p:Path):Bool:=pathOk p&&if p.fld=0 then decide (0<=at0 m.segs p.seg p.occ) else !(get m p).data.toList.isEmpty
def count(m:Msg)(name:ByteArray):Nat:=(m.segs.filter fun s=>eqT s.name name).length
end M
namespace M
inductive Tree where
 |mk (x:Node) (kids:List Tree)
def Tree.x:Tree->Node| .mk x _=>x
mutual
def flat:Tree->List Node
 | .mk x ks=>x::flats ks
def flats:List Tree->List Node
 |[]=>[]
 |t::l=>flat t++flats l
end
def path0:Path:=⟨ByteArray.empty,0,0,0,0,0⟩
def isE(s:ByteArray):Bool:=s.data.toList.isEmpty
def isPath0(p:Path):Bool:=isE p.seg&&decide (p.occ=0/\p.fld=0/\p.rep=0/\p.comp=0/\p.sub=0)
def letterB(b:UInt8):Bool:=decide (97<=b.toNat/\b.toNat<=122)||decide (65<=b.toNat/\b.toNat<=90)
def digitB(b:UInt8):Bool:=decide (48<=b.toNat/\b.toNat<=57)
def inNameB(b:UInt8):Bool:=letterB b||digitB b||decide (b.toNat=95)
def lexName(s:ByteArray):Bool:= !isE s&&decide (s.data.toList.length<=32)&&letterB (s.data.toList.getD 0 0)&&s.data.toList.all inNameB
def wIf:ByteArray:=T [105,102]
def wElse:ByteArray:=T [101,108,115,101]
def wSet:ByteArray:=T [115,101,116]
def wDelete:ByteArray:=T [100,101,108,101,116,101]
def wLet:ByteArray:=T [108,101,116]
def wRoute:ByteArray:=T [114,111,117,116,101]
def wStop:ByteArray:=T [115,116,111,112]
def wOr:ByteArray:=T [111,114]
def wAnd:ByteArray:=T [97,110,100]
def wNot:ByteArray:=T [110,111,116]
def wTrue:ByteArray:=T [116,114,117,101]
def wFalse:ByteArray:=T [102,97,108,115,101]
def reserved:List ByteArray:=[wIf,wElse,wSet,wDelete,wLet,wRoute,wStop,wOr,wAnd,wNot,wTrue,wFalse]
def hasT(l:List ByteArray)(x:ByteArray):Bool:=l.any fun s=>eqT x s
def ruleName(s:ByteArray):Bool:=lexName s&& !hasT reserved s
def classOf(op:Int):Int:=if op=0 then 1 else if 1<=op/\op<=6 then 2 else if 7<=op/\op<=23 then 3 else 0
def isBin(op:Int):Bool:=decide (13<=op/\op<=21)
def keepsText(op:Int):Bool:=decide (op=4)||decide (op=5)||decide (op=7)||decide (op=12)||decide (op=23)
def keepsPath(op:Int):Bool:=decide (op=2)||decide (op=3)||decide (op=11)
def keepsNum(op:Int):Bool:=decide (op=8)
def leastN(op:Int):Int:=if op=1 then 2 else if op=2\/op=4\/op=22 then 1 else if isBin op=true then 2 else 0
def mostN(op:Int):Int:=if op=0\/op=23 then-1 else if op=1 then 3 else if op=2\/op=4\/op=22 then 1 else if isBin op=true then 2 else 0
def bareOk(x:Node):Bool:=(keepsText x.op||isE x.text)&&(keepsNum x.op||decide (x.num=0))&&(keepsPath x.op||isPath0 x.path)
def right(x:Node):Bool:=bareOk x&&decide (leastN x.op<=x.n)&&(decide (mostN x.op<0)||decide (x.n<=mostN x.op))&&
 if x.op=2 then pathOk x.path&&decide (0<x.path.fld)
 else if x.op=3\/x.op=11 then pathOk x.path
 else if x.op=4\/x.op=12\/x.op=23 then ruleName x.text
 else if x.op=5\/x.op=7 then decide (x.text.size<=4096)
 else if x.op=8 then decide (0<=x.num/\x.num<=2147483647)
 else true
def wanted(x:Node)(i:Nat):Int:=if x.op=0 then 2 else if x.op=1/\0<i then 1 else 3
def iter(f:Nat->List Node->Option (List Node)):Nat->Nat->List Node->Option (List Node)
 |0,_,n=>some n
 |k+1,i,n=>match f i n with
  |some n'=>iter f k (i+1) n'
  |none=>none
def whole:Nat->List Node->Int->Option (List Node)
 |0,_,_=>none
 |_+1,[],_=>none
 |d+1,x::n,cls=>if classOf x.op=cls/\right x=true/\x.n<=n.length then iter (fun i n=>whole d n (wanted x i)) x.n.toNat 0 n else none
def isA(n:List Node)(cls:Int):Bool:=decide (n.length<=400)&&match whole 20 n cls with
 |some []=>true
 |_=>false
def okT:Nat->Int->Tree->Bool
 |0,_,_=>false
 |d+1,cls,.mk x ks=>decide (classOf x.op=cls)&&right x&&decide (x.n=ks.length)&&ks.zipIdx.all fun(k,i)=>okT d (wanted x i) k
structure Fn where
 args:List Int
 tells:Int
 sort:Int
 table:Bool
def nLen:ByteArray:=T [108,101,110]
def nUpper:ByteArray:=T [117,112,112,101,114]
def nLower:ByteArray:=T [108,111,119,101,114]
def nTrim:ByteArray:=T [116,114,105,109]
def nSub:ByteArray:=T [115,117,98]
def nFind:ByteArray:=T [102,105,110,100]
def nReplace:ByteArray:=T [114,101,112,108,97,99,101]
def nPad:ByteArray:=T [112,97,100]
def nNumber:ByteArray:=T [110,117,109,98,101,114]
def nText:ByteArray:=T [116,101,120,116]
def nExists:ByteArray:=T [101,120,105,115,116,115]
def nCount:ByteArray:=T [99,111,117,110,116]
def nLookup:ByteArray:=T [108,111,111,107,117,112]
def nHas:ByteArray:=T [104,97,115]
def nNow:ByteArray:=T [110,111,119]
def fns:List (ByteArray×Fn):=
 [(nLen,⟨[1],2,0,false⟩),(nUpper,⟨[1],1,0,false⟩),(nLower,⟨[1],1,0,false⟩),(nTrim,⟨[1],1,0,false⟩),(nSub,⟨[1,2,2],1,0,false⟩),(nFind,⟨[1,1],2,0,false⟩),
  (nReplace,⟨[1,1,1],1,0,false⟩),(nPad,⟨[1,2,1],1,0,false⟩),(nNumber,⟨[1],2,0,false⟩),(nText,⟨[2],1,0,false⟩),(nExists,⟨[1],3,1,false⟩),(nCount,⟨[1],2,2,false⟩),
  (nLookup,⟨[1,1,1],1,2,true⟩),(nHas,⟨[1,1],3,2,true⟩),(nNow,⟨[],1,0,false⟩)]
def look{β:Type}(key:ByteArray):List (ByteArray×β)->Option β
 |[]=>none
 |(k,v)::l=>if eqT k key=true then some v else look key l
def both(a b:Int):Bool:=decide (a=b)&&(decide (a=1)||decide (a=2))
def kindsL(f:Tree->Except Int Int):List Tree->Except Int (List Int)
 |[]=> .ok []
 |t::l=>match f t with
  | .error e=> .error e
  | .ok k=>match kindsL f l with
    | .error e=> .error e
    | .ok ks=> .ok (k::ks)
def headX:List Tree->Node
 |t::_=>t.x
 |[]=>⟨0,0,ByteArray.empty,0,path0⟩
def callE(tables:List ByteArray)(f:Option Fn)(kinds:List Int)(first:Node):Except Int Int:=
 match f with
 |none=> .error 92
 |some f=>
  if kinds≠f.args then .error 82
  else if f.sort=1/\first.op≠11 then .error 82
  else if f.sort=2/\first.op≠7 then .error 82
  else if f.table=true/\hasT tables first.text=false then .error 92
  else .ok f.tells
def opE(env:List (ByteArray×Int))(x:Node)(kinds:List Int)(segment:Bool):Except Int Int:=
 if x.op=13\/x.op=14\/x.op=22 then(if kinds.all (fun k=>decide (k=3))=true then .ok 3 else .error 82)
 else if x.op=21 then(if both (kinds.getD 0 0) (kinds.getD 1 0)=true then .ok (kinds.getD 0 0) else .error 82)
 else if x.op=15\/x.op=16 then(if kinds.getD 0 0=kinds.getD 1 0 then .ok 3 else .error 82)
 else if 17<=x.op/\x.op<=20 then(if both (kinds.getD 0 0) (kinds.getD 1 0)=true then .ok 3 else .error 82)
 else if x.op=11 then(if segment=true\/0<x.path.fld then .ok 1 else .error 82)
 else if x.op=12 then(match look x.text env with|some k=> .ok k|none=> .error 92)
 else if x.op=8 then .ok 2
 else if x.op=7 then .ok 1
 else .ok 3
def kindE(tables:List ByteArray)(env:List (ByteArray×Int)):Nat->Bool->Tree->Except Int Int
 |0,_,_=> .error 0
 |d+1,segment,.mk x ks=>
  if x.op=23 then
   match kindsL (kindE tables env d (match look x.text fns with|some f=>decide (f.sort=1)|none=>false)) ks with
   | .error e=> .error e
   | .ok kinds=>callE tables (look x.text fns) kinds (headX ks)
  else
   match kindsL (kindE tables env d false) ks with
   | .error e=> .error e
   | .ok kinds=>opE env x kinds segment
end M
section
open Go.RowKit
theorem ofInt_i64(a:Nat)(ha:a<9223372036854775808):(BitVec.ofInt 64 (a:Int)).toNat=a:=by
 rw[BitVec.ofInt_natCast,BitVec.toNat_ofNat];exact Nat.mod_eq_of_lt (by omega)
theorem i64_or_nat(a b:Nat)(ha:a<9223372036854775808)(hb:b<9223372036854775808):bits .or .i64 (a:Int) (b:Int)=((a|||b:Nat):Int):=by
 have hx:a|||b<2^63:=Nat.or_lt_two_pow (by omega) (by omega)
 show IntKind.i64.wrap ((BitVec.ofInt 64 (a:Int)|||BitVec.ofInt 64 (b:Int)).toNat:Int)=_;rw[BitVec.toNat_or,ofInt_i64 a ha,ofInt_i64 b hb,IntKind.wrap_i64];omega
end
section
open Go.RowKit Go.BigFrame
theorem take_snoc(s:ByteArray)(k:Nat)(h:k<s.size):s.data.toList.take (k+1)=s.data.toList.take k++[s[k]]:=by
 rw[List.take_succ_eq_append_getElem (by simpa using h)];rfl
end
section
open Go Go.RowKit Go.Maps Go.MapKept Go.ChangeMaps
def MapT(P:Program)(k:TypeId){κ:Type}(enc:κ->Value)(w:World)(b:Nat)(f:κ->Option Value):Prop:=
 ∃es clock,w.heap[b]? =some (.map es clock)/\(∀e∈es.toList,(∃kl,keyOf P k e.key=some kl)/\∃x,e.key=enc x/\f x=some e.val)/\(∀x v,f x=some v->∃e∈es.toList,e.key=enc x/\e.val=v)/\(∀(i j:Nat) (ei ej:MapEntry),es[i]? =some ei->es[j]? =some ej->ei.key=ej.key->i=j)/\Stamped es clock
section
variable {P:Program} {k:TypeId} {κ:Type} {enc:κ->Value} {w w':World} {b:Nat} {f:κ->Option Value}
theorem MapT.lt(h:MapT P k enc w b f):b<w.heap.size:=by
 obtain⟨es,clock,hb,_⟩:=h;exact(Array.getElem?_eq_some_iff.1 hb).1
theorem MapT.keep(h:MapT P k enc w b f)(hb:w'.heap[b]? =w.heap[b]?):MapT P k enc w' b f:=by
 obtain⟨es,clock,h1,h2⟩:=h;exact⟨es,clock,hb.trans h1,h2⟩
theorem MapT.below{B:Nat}(h:MapT P k enc w b f)(hs:Below B w w')(hb:b<B):MapT P k enc w' b f:=h.keep (hs.block b hb)
theorem MapT.made(w:World)(P:Program)(k:TypeId)(enc:κ->Value):MapT P k enc (w.alloc (.map #[] 0)) w.heap.size (fun _=>none):=
 ⟨#[],0,(MapKept.heap_alloc w _).1,fun e he=>by simp at he,(fun x v hv=>by cases hv),fun i j ei ej hi=>by simp at hi,stamped_empty 0⟩
theorem MapT.congr{g:κ->Option Value}(h:MapT P k enc w b f)(e:∀x,f x=g x):MapT P k enc w b g:=by
 have:f=g:=funext e;exact this▸h
theorem MapT.look{t e:TypeId}(h:MapT P k enc w b f)(K:Keyed P k)(ht:P.underlying t=some (.map k e))(hinj:∀x y,enc x=enc y->x=y){x:κ}{kl:Lit}(hkey:keyOf P k (enc x)=some kl){z:Value}(hz:(zeroValue e).run P w= .ok z w)(c:Bool):
 (Instr.lookup t (.map (some b)) (enc x) c).run P w= .ok (if c then .tuple #[(f x).getD z,.bool (f x).isSome] else(f x).getD z) w:=by
 obtain⟨es,clock,hb,h1,h2,h3,hst⟩:=h;rcases K.find w hkey es.toList (fun e he=>(h1 e he).1) with⟨hf,hno⟩|⟨j,e0,hf,hj,hk⟩
 ·have hn:f x=none:=by
   cases hx:f x with
   |none=>rfl
   |some v=>
    obtain⟨e,he,hk,_⟩:=h2 x v hx;exact absurd hk (hno e he)
  rw[hn];simp[Instr.lookup,run_underlying ht,MapKept.run_getObj_map hb,K.check w _ hkey,hf,hz,Result.andThen]
 ·obtain⟨_,y,hy,hv⟩:=h1 e0 (List.mem_of_getElem? hj)
  have:y=x:=hinj _ _ (hy.symm.trans hk);subst this;rw[hv];simp[Instr.lookup,run_underlying ht,MapKept.run_getObj_map hb,K.check w _ hkey,hf,Result.andThen]
theorem MapT.store[DecidableEq κ]{t e:TypeId}(h:MapT P k enc w b f)(K:Keyed P k)(ht:P.underlying t=some (.map k e))(hinj:∀x y,enc x=enc y->x=y){x:κ}{kl:Lit}(hkey:keyOf P k (enc x)=some kl)(v:Value):
 ∃w',(Instr.mapUpdate t (.map (some b)) (enc x) v).run P w= .ok () w'/\MapT P k enc w' b (fun y=>if y=x then some v else f y)/\w.grownBy w' (some b):=by
 obtain⟨es,clock,hb,h1,h2,h3,hst⟩:=h;have hgrow:∀o,w.grownBy (setBlock w b o) (some b):=fun o=>⟨rfl,rfl,rfl,by simp[setBlock],fun i _ hi=>heap_setBlock_other hb _ (fun e=>hi (by rw[e]))⟩
 rcases K.find w hkey es.toList (fun e he=>(h1 e he).1) with⟨hf,hno⟩|⟨j,e0,hf,hj,hk⟩
 ·refine⟨setBlock w b (.map (es.push ⟨enc x,v,clock⟩) (clock+1)),by simp[Instr.mapUpdate,run_underlying ht,MapKept.run_getObj_map hb,K.check w false hkey,hf,MapKept.run_setObj_map _ hb,Result.andThen,setBlock],⟨_,_,heap_setBlock_same hb _,fun e he=> ?_,fun y u hy=> ?_,fun i j ei ej hi hj he=> ?_,stamped_push hst hno⟩,hgrow _⟩
  ·simp only[Array.toList_push,List.mem_append,List.mem_singleton] at he
   rcases he with he|rfl
   ·obtain⟨hkl,y,hy,hv⟩:=h1 e he
    refine⟨hkl,y,hy,?_⟩;show(if y=x then some v else f y)=some e.val
    rw[if_neg (fun hc=>hno e he (by rw[hy,hc]))];exact hv
   ·exact⟨⟨kl,hkey⟩,x,rfl,if_pos rfl⟩
  ·simp only[Array.toList_push,List.mem_append,List.mem_singleton]
   by_cases hc:y=x
   ·subst hc
    replace hy:(if y=y then some v else f y)=some u:=hy;rw[if_pos rfl] at hy;cases hy;exact⟨_,.inr rfl,rfl,rfl⟩
   ·replace hy:(if y=x then some v else f y)=some u:=hy
    rw[if_neg hc] at hy;obtain⟨e,he,hr⟩:=h2 y u hy;exact⟨e,.inl he,hr⟩
  ·have old:∀(n:Nat) (en:MapEntry),es[n]? =some en->en.key≠enc x:=fun n en hn=>hno en (List.mem_of_getElem? (i:=n) (by rw[Array.getElem?_toList];exact hn))
   rw[Array.getElem?_push] at hi hj;by_cases hi':i=es.size<;>by_cases hj':j=es.size
   ·omega
   ·rw[if_pos hi'] at hi
    rw[if_neg hj'] at hj;cases hi;exact absurd he.symm (old j ej hj)
   ·rw[if_neg hi'] at hi
    rw[if_pos hj'] at hj;cases hj;exact absurd he (old i ei hi)
   ·rw[if_neg hi'] at hi
    rw[if_neg hj'] at hj;exact h3 i j ei ej hi hj he
 ·have hj':es[j]? =some e0:=by simpa using hj
  have hget:∀(n:Nat) (en:MapEntry),(es.modify j fun e=>{e with key:=enc x,val:=v})[n]? =some en->(n=j/\en={e0 with key:=enc x,val:=v})\/(n≠j/\es[n]? =some en):=fun n en hn=>by
   rw[Array.getElem?_modify] at hn;by_cases hjn:j=n
   ·subst hjn
    rw[if_pos rfl,hj'] at hn;simp at hn;exact .inl ⟨rfl,hn.symm⟩
   ·rw[if_neg hjn] at hn
    exact .inr ⟨fun e=>hjn e.symm,hn⟩
  have hother:∀(n:Nat) (en:MapEntry),n≠j->es[n]? =some en->en.key≠enc x:=fun n en hne hn hc=>hne (h3 n j en e0 hn hj' (hc.trans hk.symm));refine⟨setBlock w b (.map (es.modify j fun e=>{e with key:=enc x,val:=v}) clock),by simp[Instr.mapUpdate,run_underlying ht,MapKept.run_getObj_map hb,K.check w false hkey,hf,hj',hk,K.stays w hkey,MapKept.run_setObj_map _ hb,Result.andThen,setBlock],⟨_,_,heap_setBlock_same hb _,fun e he=> ?_,fun y u hy=> ?_,fun i l ei el hi hl he=> ?_,stamped_modify hst j _ (fun _ _=>rfl) (fun e _ he=>by rw[hj'] at he;cases he;exact hk.symm)⟩,hgrow _⟩
  ·obtain⟨i,hi⟩:=List.getElem?_of_mem he
   rw[Array.getElem?_toList] at hi;rcases hget i e hi with⟨_,rfl⟩|⟨hne,hi⟩
   ·exact⟨⟨kl,hkey⟩,x,rfl,if_pos rfl⟩
   ·obtain⟨hkl,y,hy,hv⟩:=h1 e (List.mem_of_getElem? (i:=i) (by rw[Array.getElem?_toList];exact hi))
    exact⟨hkl,y,hy,(if_neg (fun hc=>hother i e hne hi (by rw[hy,hc]))).trans hv⟩
  ·by_cases hc:y=x
   ·subst hc
    replace hy:(if y=y then some v else f y)=some u:=hy;rw[if_pos rfl] at hy;cases hy;exact⟨{e0 with key:=enc y,val:=v},List.mem_of_getElem? (i:=j) (by rw[Array.getElem?_toList,Array.getElem?_modify,if_pos rfl,hj'];rfl),rfl,rfl⟩
   ·replace hy:(if y=x then some v else f y)=some u:=hy
    rw[if_neg hc] at hy;obtain⟨e,he,hek,hev⟩:=h2 y u hy;obtain⟨i,hi⟩:=List.getElem?_of_mem he;rw[Array.getElem?_toList] at hi
    have hne:j≠i:=by
     intro e1;subst e1;rw[hj'] at hi;cases hi;exact hc (hinj _ _ (hek.symm.trans hk))
    exact⟨e,List.mem_of_getElem? (i:=i) (by rw[Array.getElem?_toList,Array.getElem?_modify,if_neg hne];exact hi),hek,hev⟩
  ·rcases hget i ei hi with⟨e1,r1⟩|⟨n1,g1⟩<;>rcases hget l el hl with⟨e2,r2⟩|⟨n2,g2⟩
   ·omega
   ·subst r1
    exact absurd he.symm (hother l el n2 g2)
   ·subst r2
    exact absurd he (hother i ei n1 g1)
   ·exact h3 i l ei el g1 g2 he
end
end
section
open Go Go.RowKit Go.BigFrame
theorem classOf_any(op:Int)(w:World):Calls Tryz.prog 222 #[.int .i64 op] w fun e w'=>e= .returned (.int .i64 (M.classOf op))/\Below w.heap.size w w':=by
 by_cases h0:op=0
 ·have q0:(op==0)=true:=by simp[h0]
  go_enter Tryz.func222,Tryz.ntmps222;go_wp2;go_ret;exact⟨by simp[M.classOf,h0],Below.refl _ _⟩
 ·have q0:(op==0)=false:=by simp[h0]
  by_cases h1:1<=op
  ·have q1:decide (1<=op)=true:=by simp[h1]
   by_cases h2:op<=6
   ·have q2:decide (op<=6)=true:=by simp[h2]
    go_enter Tryz.func222,Tryz.ntmps222;go_wp2;go_ret;exact⟨by simp[M.classOf,h0,h1,h2],Below.refl _ _⟩
   ·have q2:decide (op<=6)=false:=by simp;omega
    have q3:decide (7<=op)=true:=by simp;omega
    have h3:7<=op:=by omega
    by_cases h4:op<=23
    ·have q4:decide (op<=23)=true:=by simp[h4]
     go_enter Tryz.func222,Tryz.ntmps222;go_wp2;go_ret;exact⟨by simp[M.classOf,h0,h1,h2,h3,h4],Below.refl _ _⟩
    ·have q4:decide (op<=23)=false:=by simp;omega
     go_enter Tryz.func222,Tryz.ntmps222;go_wp2;go_ret;exact⟨by rw[show M.classOf op=0 by unfold M.classOf;rw[if_neg h0,if_neg (by omega),if_neg (by omega)]];rfl,Below.refl _ _⟩
  ·have q1:decide (1<=op)=false:=by simp;omega
   have q3:decide (7<=op)=false:=by simp;omega
   have h3:¬7<=op:=by omega
   go_enter Tryz.func222,Tryz.ntmps222;go_wp2;go_ret;exact⟨by rw[show M.classOf op=0 by unfold M.classOf;rw[if_neg h0,if_neg (by omega),if_neg (by omega)]];rfl,Below.refl _ _⟩
theorem wanted_any(x:M.Node)(i:Nat)(w:World):Calls Tryz.prog 224 #[.agg #[.int .i64 x.op,.int .i64 x.n,.string x.text,.int .i64 x.num,.string x.path.seg,.int .i64 x.path.occ,.int .i64 x.path.fld,.int .i64 x.path.rep,.int .i64 x.path.comp,.int .i64 x.path.sub],.int .i64 i] w fun e w'=>e= .returned (.int .i64 (M.wanted x i))/\Below w.heap.size w w':=by
 have B1:=q_ ((Below.refl _ w).alloc (n_) (.cells #[.int .i64 x.op,.int .i64 x.n,.string x.text,.int .i64 x.num,.string x.path.seg,.int .i64 x.path.occ,.int .i64 x.path.fld,.int .i64 x.path.rep,.int .i64 x.path.comp,.int .i64 x.path.sub] 144));by_cases h0:x.op=0
 ·have q0:(x.op==0)=true:=by simp[h0]
  have HW:=q_ (show M.wanted x i=2 from if_pos h0);clear h0;go_enter Tryz.func224,Tryz.ntmps224;go_wp2;go_ret;exact⟨by rw[HW.o];rfl,B1.o⟩
 ·have q0:(x.op==0)=false:=by simp[h0]
  by_cases h1:x.op=1
  ·have q1:(x.op==1)=true:=by simp[h1]
   by_cases h2:0<i
   ·have q2:decide (0<(i:Int))=true:=by simp;omega
    have HW:=q_ (show M.wanted x i=1 by unfold M.wanted;rw[if_neg h0,if_pos ⟨h1,h2⟩]);clear h0 h1;go_enter Tryz.func224,Tryz.ntmps224;go_wp2;go_ret;exact⟨by rw[HW.o];rfl,B1.o⟩
   ·have q2:decide (0<(i:Int))=false:=by simp;omega
    have HW:=q_ (show M.wanted x i=3 by unfold M.wanted;rw[if_neg h0,if_neg (fun h=>h2 h.2)]);clear h0 h1;go_enter Tryz.func224,Tryz.ntmps224;go_wp2;go_ret;exact⟨by rw[HW.o];rfl,B1.o⟩
  ·have q1:(x.op==1)=false:=by simp[h1]
   have HW:=q_ (show M.wanted x i=3 by unfold M.wanted;rw[if_neg h0,if_neg (fun h=>h1 h.1)]);go_enter Tryz.func224,Tryz.ntmps224;go_wp2;go_ret;exact⟨by rw[HW.o];rfl,B1.o⟩
end
namespace M
def bareN(x:Node):Node:=⟨x.op,x.n,if keepsText x.op=true then x.text else ByteArray.empty,if keepsNum x.op=true then x.num else 0,if keepsPath x.op=true then x.path else path0⟩
theorem isE_iff(s:ByteArray):isE s=true<->s=ByteArray.empty:=by
 unfold isE;constructor
 ·intro h
  have h2:s.data.toList=[]:=List.isEmpty_iff.1 h;have h3:s.data=#[]:=Array.toList_inj.1 h2;cases s;exact congrArg ByteArray.mk h3
 ·rintro rfl
  rfl
theorem isPath0_iff(p:Path):isPath0 p=true<->p=path0:=by
 unfold isPath0 path0;rw[Bool.and_eq_true,isE_iff,decide_eq_true_iff];cases p;simp
theorem bareOk_iff(x:Node):bareOk x=true<->x=bareN x:=by
 obtain⟨op,n,text,num,path⟩:=x;unfold bareOk bareN;simp only[Bool.and_eq_true,Bool.or_eq_true,isE_iff,isPath0_iff,decide_eq_true_iff,Node.mk.injEq,true_and];refine⟨fun h=>⟨?_,?_,?_⟩,fun h=>⟨⟨?_,?_⟩,?_⟩⟩
 ·split
  ·rfl
  ·next hk=>exact h.1.1.resolve_left hk
 ·split
  ·rfl
  ·next hk=>exact h.1.2.resolve_left hk
 ·split
  ·rfl
  ·next hk=>exact h.2.resolve_left hk
 ·by_cases hk:keepsText op=true
  ·exact .inl hk
  ·exact .inr (by have:=h.1;rwa [if_neg hk] at this)
 ·by_cases hk:keepsNum op=true
  ·exact .inl hk
  ·exact .inr (by have:=h.2.1;rwa [if_neg hk] at this)
 ·by_cases hk:keepsPath op=true
  ·exact .inl hk
  ·exact .inr (by have:=h.2.2;rwa [if_neg hk] at this)
end M
end Go.Proofs.YtnocnbklhikmnaaGreatDoor
