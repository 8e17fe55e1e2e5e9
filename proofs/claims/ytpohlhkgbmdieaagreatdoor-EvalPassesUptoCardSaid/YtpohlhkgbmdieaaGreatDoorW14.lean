/- Part 14 of the proof. -/
import Derived.Lib.Index
import Derived.Lib.Split
import Derived.Test.YtpohlhkgbmdieaaGreatDoorW13
import Derived.Maps.Keyed
import Derived.Maps.Own
import Derived.DeepKeys4
import Derived.Lib.IndexBytes
import Derived.Lib.ConvBytes
import Derived.Laws.BitsAllLaws
set_option linter.unusedVariables false
set_option maxRecDepth 1000000
set_option maxHeartbeats 16000000
namespace Go.Proofs.YtpohlhkgbmdieaaGreatDoor
variable{g k:Nat}{l:List UInt8}{name:ByteArray}{s:M.Seg}{w:World}{α β:Type}
namespace M
def L(s:ByteArray):List UInt8:=s.data.toList
def lg(lo hi:Nat)(b:UInt8):UInt8:=if lo<=b.toNat/\b.toNat<=hi then b^^^32 else b
def turned(lo hi:Nat)(s:ByteArray):ByteArray:=T ((L s).map (lg lo hi))
def trim(s:ByteArray):ByteArray:=T (Lib.trimS (L s) [32,9,10,13])
def kr(n lo hi:Int):Int:=if n<lo then lo else if hi<n then hi else n
def sub(s:ByteArray)(from_ count:Int):ByteArray:=
 let a:=(kr from_ 0 s.size).toNat
 T (((L s).drop a).take (kr count 0 (s.size-a:Nat)).toNat)
def find(s part:ByteArray):Int:=Lib.index (L s) (L part)+1
def l8(old iy:List UInt8):Nat->List UInt8->List UInt8->Option (List UInt8)
 |0,_,_=>none
 |k+1,acc,s=>
  if Lib.index s old<0 then(if 4096<(acc++s).length then none else some (acc++s))
  else
   let i:=(Lib.index s old).toNat
   let jaq:=acc++s.take i++iy
   if 4096<jaq.length then none else l8 old iy k jaq (s.drop (i+old.length))
def replace(s old iy:ByteArray):Except Int ByteArray:=
 if Ah old=true then(if 4096<s.size then .error 2 else .ok s)
 else match l8 (L old) (L iy) (s.size+1) [] (L s) with
  |some l=> .ok (T l)
  |none=> .error 2
def lz(iy:List UInt8)(n:Nat):List UInt8:=(List.range n).map fun i=>iy.getD (i%iy.length) 0
def pad(s:ByteArray)(width:Int)(iy:ByteArray):Except Int ByteArray:=
 if width<=s.size\/Ah iy=true then(if 4096<s.size then .error 2 else .ok s)
 else if 4096<width then .error 2
 else .ok (T (lz (L iy) (width-s.size).toNat++L s))
def br(s:ByteArray):Val:=⟨1,s,0,false⟩
def fx(n:Int):Val:=⟨2,ByteArray.empty,n,false⟩
def bk(b:Bool):Val:=⟨3,ByteArray.empty,0,b⟩
def cW:Val:=⟨0,ByteArray.empty,0,false⟩
def short(s:ByteArray):Except Int Val:=if 4096<s.size then .error 2 else .ok (br s)
def told:Except Int ByteArray->Except Int Val
 | .ok s=> .ok (br s)
 | .error e=> .error e
def ZB(n:Int):Int:=IntKind.i64.wrap n
def plusV(a b:Val):Except Int Val:=
 if a.kind=1 then short (a.text++b.text)
 else if 2147483647<ZB (a.num+b.num) then .error 11 else .ok (fx (ZB (a.num+b.num)))
def order(a b:Val):Int:=if a.kind=1 then P.cmp (L a.text) (L b.text) else kr (ZB (a.num-b.num)) (-1) 1
def SA(a b:Val):Bool:=decide (a.kind=b.kind)&&bJ a.text b.text&&decide (a.num=b.num)&&(a.truth==b.truth)
def gY(op:Int)(a b:Val):Except Int Val:=
 if op=15 then .ok (bk (SA a b))
 else if op=16 then .ok (bk (!SA a b))
 else if op=17 then .ok (bk (decide (order a b<0)))
 else if op=18 then .ok (bk (decide (order a b<=0)))
 else if op=19 then .ok (bk (decide (0<order a b)))
 else if op=20 then .ok (bk (decide (0<=order a b)))
 else plusV a b
structure Cx where
 tables:List Table
 now:ByteArray
abbrev Scope:=ByteArray->Option Val
structure St where
 m:dQ
 routes:List ByteArray
 stopped:Bool
 scopes:List Scope
def bQ(ts:List Table)(name:ByteArray):Table:=(ts.find? fun t=>bJ t.name name).getD ⟨ByteArray.empty,[]⟩
def named(scopes:List Scope)(name:ByteArray):Val:=((scopes.reverse.findSome? fun s=>s name)).getD cW
def aY(a:List Val)(i:Nat):Val:=a.getD i cW
def nV(c:Cx)(m:dQ)(name:ByteArray)(first:Node)(a:List Val):Except Int Val:=
 if bJ name N4=true then .ok (fx (aY a 0).text.size)
 else if bJ name uM=true then .ok (br (turned 97 122 (aY a 0).text))
 else if bJ name uN=true then .ok (br (turned 65 90 (aY a 0).text))
 else if bJ name CP=true then .ok (br (trim (aY a 0).text))
 else if bJ name N7=true then .ok (br (sub (aY a 0).text (aY a 1).num (aY a 2).num))
 else if bJ name CQ=true then .ok (fx (find (aY a 0).text (aY a 1).text))
 else if bJ name lS=true then told (replace (aY a 0).text (aY a 1).text (aY a 2).text)
 else if bJ name Oa=true then told (pad (aY a 0).text (aY a 1).num (aY a 2).text)
 else if bJ name pG=true then(if P.ew (L (aY a 0).text)=true then .ok (fx (P.lL (L (aY a 0).text))) else .error 11)
 else if bJ name CR=true then .ok (br (T (P.digits (aY a 0).num)))
 else if bJ name nh=true then .ok (bk (has m first.path))
 else if bJ name qU=true then .ok (fx (count m first.text))
 else if bJ name ni=true then .ok (br ((look (aY a 1).text (bQ c.tables first.text).entries).getD (aY a 2).text))
 else if bJ name Kl=true then .ok (bk (look (aY a 1).text (bQ c.tables first.text).entries).isSome)
 else .ok (br c.now)
def fO(name:ByteArray):Bool:=bJ name nh||bJ name qU||bJ name ni||bJ name Kl
def cz(f:Tree->Except Int Val×Nat):List Tree->Except Int (List Val)×Nat
 |[]=>(.ok [],0)
 |t::l=>match f t with
  |(.error e,k)=>(.error e,k)
  |(.ok v,k)=>match cz f l with
   |(.error e,j)=>(.error e,k+j)
   |(.ok vs,j)=>(.ok (v::vs),k+j)
def kid(ks:List Tree)(i:Nat):Tree:=ks.getD i (.mk ⟨0,0,ByteArray.empty,0,lN⟩ [])
def aL(c:Cx)(m:dQ)(scopes:List Scope):Nat->Tree->Except Int Val×Nat
 |0,_=>(.error 1,0)
 |d+1,.mk x ks=>
  if x.op=7 then(.ok (br x.text),1)
  else if x.op=8 then(.ok (fx x.num),1)
  else if x.op=9\/x.op=10 then(.ok (bk (decide (x.op=9))),1)
  else if x.op=11 then(short (get m x.path),1)
  else if x.op=12 then(.ok (named scopes x.text),1)
  else if x.op=23 then
   match cz (aL c m scopes d) (if fO x.text=true then ks.tail else ks) with
   |(.error e,k)=>(.error e,k+1)
   |(.ok vs,k)=>(nV c m x.text (bl ks) (if fO x.text=true then cW::vs else vs),k+1)
  else
   match aL c m scopes d (kid ks 0) with
   |(.error e,k)=>(.error e,k+1)
   |(.ok a,k)=>
    if x.op=22 then(.ok (bk (!a.truth)),k+1)
    else if(x.op=13/\a.truth=true)\/(x.op=14/\a.truth=false) then(.ok a,k+1)
    else match aL c m scopes d (kid ks 1) with
     |(.error e,j)=>(.error e,k+j+1)
     |(.ok b,j)=>(if x.op=13\/x.op=14 then .ok b else gY x.op a b,k+j+1)
def jT(scopes:List Scope)(name:ByteArray)(v:Val):List Scope:=
 let at_:=match(List.range scopes.length).reverse.find? fun i=>match scopes[i]?with|some s=>(s name).isSome|none=>false with
  |some i=>i
  |none=>scopes.length-1
 scopes.modify at_ fun s=>fun n=>if n=name then some v else s n
def bA(f:St->Tree->Except Int St×Nat):St->List Tree->Except Int St×Nat
 |s,[]=>(.ok s,0)
 |s,t::l=>
  if s.stopped=true then bA f s l
  else match f s t with
   |(.error e,k)=>(.error e,k)
   |(.ok s',k)=>match bA f s' l with
    |(r,j)=>(r,k+j)
def aQ(c:Cx):Nat->St->Tree->Except Int St×Nat
 |0,_,_=>(.error 1,0)
 |d+1,s,.mk x ks=>
  if x.op=0 then
   match bA (aQ c d) {s with scopes:=s.scopes++[fun _=>none]} ks with
   |(.error e,k)=>(.error e,k+1)
   |(.ok s',k)=>(.ok {s' with scopes:=s'.scopes.take s.scopes.length},k+1)
  else if x.op=1 then
   match aL c s.m s.scopes d (kid ks 0) with
   |(.error e,k)=>(.error e,k+1)
   |(.ok v,k)=>
    if v.truth=true then(match aQ c d s (kid ks 1) with|(r,j)=>(r,k+j+1))
    else if 2<ks.length then(match aQ c d s (kid ks 2) with|(r,j)=>(r,k+j+1))
    else(.ok s,k+1)
  else if x.op=2 then
   match aL c s.m s.scopes d (kid ks 0) with
   |(.error e,k)=>(.error e,k+1)
   |(.ok v,k)=>(if lx s.m x.path≠0 then .error (lx s.m x.path) else .ok {s with m:=uL s.m x.path v.text},k+1)
  else if x.op=3 then(if asked s.m x.path true≠0 then .error (asked s.m x.path true) else .ok {s with m:=qR s.m x.path},1)
  else if x.op=4 then
   match aL c s.m s.scopes d (kid ks 0) with
   |(.error e,k)=>(.error e,k+1)
   |(.ok v,k)=>(.ok {s with scopes:=jT s.scopes x.text v},k+1)
  else if x.op=5 then(.ok {s with routes:=if fo s.routes x.text=true then s.routes else s.routes++[x.text]},1)
  else(.ok {s with stopped:=true},1)
end M
section
open Go Go.RowKit Go.BigFrame
theorem fy(s t:ByteArray):(s.toList==t.toList)=M.bJ s t:=by simp[M.bJ,ByteArray.toList_eq]
theorem GH:Enters Tryz.prog 242:=fun _ _=>rfl
theorem TC(g1 g2:Nat)(hne:g1≠g2)(sn name:ByteArray)(v:Value)(o:Int)(w:World)(h1:ar w g1 9 #[.string name])(h2:ar w g2 3 #[.int .i64 o]):
 Calls Tryz.prog 242 #[.agg #[.string sn,v],.pointer (some ⟨g1,0,none⟩),.pointer (some ⟨g2,0,none⟩)] w fun e w'=>e= .returned (.bool (M.bJ sn name&&decide (wrap64 (o-1)=0)))/\w.grownBy w' (some g2)/\ar w' g2 3 #[.int .i64 (if M.bJ sn name=true then wrap64 (o-1) else o)]:=by
 have hx:=fy sn name;obtain⟨w1,bu⟩:∃w1,w1=w.alloc (.cells #[.string sn,v] 48):=⟨_,rfl⟩
 have E1:=q_ (show ar w1 w.heap.size 48 #[.string sn,v] from bu▸ar.new w _ _);have E2:=q_ (show ar w1 g1 9 #[.string name] from bu▸h1.alloc _);have E3:=q_ (show ar w1 g2 3 #[.int .i64 o] from bu▸h2.alloc _);have B1:=q_ (show aj w w1 from bu▸(Below.refl _ w).alloc (n_) _);have hz:=h2.lt;have hz1:=h1.lt;have hz2:w.heap.size<w1.heap.size:=by rw[bu];simp
 have z1:=fun i=>E1.o.cell i;have z2:=fun i=>E2.o.cell i;have z3:=fun i=>E3.o.cell i;have f3:=fun i=>E3.o.frozen i;have y2:=fun i=>h1.cell i;have y3:=fun i=>h2.cell i;have yf:=fun i=>h2.frozen i;go_enter Tryz.func242,Tryz.ntmps242;cases hb:M.bJ sn name
 ·rw[hb] at hx
  go_wp2_with fail;rw[<-bu];go_wp2;go_ret;exact⟨by simp[],B1.o.grown _,by simpa[hb] using E3.o⟩
 ·rw[hb] at hx
  go_wp2_with fail;go_ret;refine⟨?_,(aV w g2 0 _).trans (World.grownBy_alloc _ _ _),?_⟩
  ·have hq:(wrap64 (o-1)==0)=(true&&decide (wrap64 (o-1)=0)):=by rw[Bool.true_and,Bool.eq_iff_iff];simp
   exact congrArg (fun b=>Ending.returned (.bool b)) hq
  simpa using(h2.fK 0 (.int .i64 (wrap64 (o-1)))).alloc (.cells #[.string sn,v] 48)
def oK(l:List M.Seg)(name:ByteArray)(k:Nat):Nat:=((l.take k).filter fun s=>M.bJ s.name name).length
theorem yj(l:List M.Seg)(name:ByteArray):oK l name 0=0:=rfl
theorem qW{l:List M.Seg}(h:l[k]? =some s):oK l name (k+1)=oK l name k+if M.bJ s.name name=true then 1 else 0:=by
 unfold oK;rw[List.take_add_one,h];simp[List.filter_append];split<;>simp_all
theorem Ji(l:List M.Seg)(name:ByteArray)(k:Nat):oK l name k<=k:=by
 unfold oK;exact t_ (List.length_filter_le _ _) (List.length_take_le _ _)
def KZ(l:List M.Seg)(name:ByteArray)(aP:Int)(k:Nat):Bool:=match l[k]?with
 |some s=>M.bJ s.name name&&decide (aP=(oK l name (k+1):Int))
 |none=>false
theorem Df{l:List M.Seg}{aP:Int}(h:l[k]? =some s):KZ l name aP k=(M.bJ s.name name&&decide (aP=(oK l name (k+1):Int))):=by unfold KZ;rw[h]
theorem OH(s:M.Seg)(l:List M.Seg)(name:ByteArray)(aP:Int)(k:Nat):KZ (s::l) name aP (k+1)=KZ l name (if M.bJ s.name name=true then aP-1 else aP) k:=by
 unfold KZ;rw[List.getElem?_cons_succ];cases h:l[k]?with
 |none=>rfl
 |some x=>
  have:oK (s::l) name (k+1+1)=oK l name (k+1)+if M.bJ s.name name=true then 1 else 0:=by
   unfold oK;rw[List.take_succ_cons,List.filter_cons];split<;>simp
  simp only[this];by_cases he:M.bJ s.name name=true
  ·simp only[he,if_true]
   congr 1;rw[Bool.eq_iff_iff];simp;omega
  ·simp[he]
theorem Dg(m:Nat)(q:Nat->Bool):bT (m+1) q=if q 0=true then 0 else if bT m (fun k=>q (k+1))<0 then-1 else bT m (fun k=>q (k+1))+1:=by
 by_cases h0:q 0=true
 ·rw[if_pos h0]
  exact cP (k:=0) (by omega) h0 (fun j hj=>absurd hj (Nat.not_lt_zero j))
 ·rw[if_neg h0]
  by_cases he:∃k,k<m/\q (k+1)=true/\∀j,j<k->q (j+1)=false
  ·obtain⟨k,hk,hq,hno⟩:=he
   rw[cP (m:=m) (q:=fun k=>q (k+1)) hk hq hno,if_neg (by omega)]
   exact cP (k:=k+1) (by omega) hq (fun j hj=>by
    cases j with
    |zero=>simpa using h0
    |succ j=>exact hno j (by omega))
  ·have hall:∀j,j<m->q (j+1)=false:=by
    intro j
    induction j using Nat.strongRecOn with
    |ind j ih=>
     intro hj;cases hq:q (j+1) with
     |false=>rfl
     |true=>exact absurd ⟨j,hj,hq,fun i hi=>ih i hi (by omega)⟩ he
   rw[dg (m:=m) (q:=fun k=>q (k+1)) hall,if_pos (by omega)]
   exact dg (fun j hj=>by
    cases j with
    |zero=>simpa using h0
    |succ j=>exact hall j (by omega))
theorem uW(name:ByteArray):∀(l:List M.Seg) (aP i:Int),0<=i->M.at_ name l aP i=if bT l.length (KZ l name aP)<0 then-1 else bT l.length (KZ l name aP)+i
 |[],aP,i,hi=>by simp[M.at_,bT]
 |s::l,aP,i,hi=>by
  rw[List.length_cons,Dg]
  have e0:KZ (s::l) name aP 0=(M.bJ s.name name&&decide (aP=1)):=by
   rw[Df (s:=s) rfl,qW (s:=s) rfl,yj];by_cases he:M.bJ s.name name=true<;>simp[he]
  have e1:(fun k=>KZ (s::l) name aP (k+1))=KZ l name (if M.bJ s.name name=true then aP-1 else aP):=funext fun k=>OH s l name aP k;rw[e0,e1];unfold M.at_;by_cases he:M.bJ s.name name=true
  ·by_cases ho:aP=1
   ·simp[he,ho]
   ·have ih:=uW name l (aP-1) (i+1) (by omega)
    simp only[he,if_true,ho,if_false,decide_false,Bool.and_false,Bool.false_eq_true,ih];split
    ·simp
    ·rw[if_neg (by omega)];omega
  ·have ih:=uW name l aP (i+1) (by omega)
   simp only[he,if_false,ih,Bool.false_and,Bool.false_eq_true];split
   ·simp
   ·rw[if_neg (by omega)];omega
theorem OI(name:ByteArray)(l:List M.Seg)(aP:Int):M.at0 l name aP=bT l.length (KZ l name aP):=by
 unfold M.at0;rw[uW name l aP 0 (by omega)];split
 ·have:∀m (q:Nat->Bool),bT m q<0->bT m q= -1:=fun m q h=>by
   unfold bT at h⊢;split at h<;>simp_all<;>omega
  rw[this _ _ (by assumption)]
 ·omega
theorem La(o:Int)(n:Nat)(ho:pH o)(hn:n<=1048576):(wrap64 (o-n)=0)<->(o=(n:Int)):=by
 unfold pH at ho;unfold wrap64;omega
theorem ym(o:Int)(n:Nat):wrap64 (wrap64 (o-n)-1)=wrap64 (o-(n+1:Nat)):=by
 unfold wrap64;omega
theorem Lb(o:Int)(ho:pH o):wrap64 o=o:=by
 unfold pH at ho;unfold wrap64;omega
theorem uX(d:M.bR)(A:Option Addr)(c:Nat)(l:List M.Seg)(name:ByteArray)(aP:Int)(S:Nat->Prop)(w:World)(hS:∀b,S b->b<w.heap.size)(aI:bX A l.length c)(hl:bn aX w S A l.length l)(ho:pH aP):
 Calls Tryz.prog 172 #[.agg #[.int .u8 (d.f.toNat:Int),.int .u8 (d.c.toNat:Int),.int .u8 (d.r.toNat:Int),.int .u8 (d.e.toNat:Int),.int .u8 (d.s.toNat:Int),.slice A l.length c],.string name,.int .i64 aP] w fun e w'=>e= .returned (.int .i64 (M.at0 l name aP))/\Below w.heap.size w w':=by
 rw[OI];have hm:=aI.le;obtain⟨w1,bu⟩:∃w1,w1=w.alloc (.cells #[.int .u8 (d.f.toNat:Int),.int .u8 (d.c.toNat:Int),.int .u8 (d.r.toNat:Int),.int .u8 (d.e.toNat:Int),.int .u8 (d.s.toNat:Int),.slice A l.length c] 27):=⟨_,rfl⟩
 obtain⟨w2,hw2⟩:∃w2,w2=w1.alloc (.cells #[.string name] 9):=⟨_,rfl⟩
 obtain⟨w3,hw3⟩:∃w3,w3=w2.alloc (.cells #[.int .i64 aP] 3):=⟨_,rfl⟩
 have s1:w1.heap.size=w.heap.size+1:=by rw[bu];simp
 have s2:w2.heap.size=w.heap.size+2:=by rw[hw2];simp[s1]
 have s3:w3.heap.size=w.heap.size+3:=by rw[hw3];simp[s2]
 have X1:=q_ (show ar w3 w.heap.size 27 #[.int .u8 (d.f.toNat:Int),.int .u8 (d.c.toNat:Int),.int .u8 (d.r.toNat:Int),.int .u8 (d.e.toNat:Int),.int .u8 (d.s.toNat:Int),.slice A l.length c] by rw[hw3,hw2,bu];exact((ar.new w _ _).alloc _).alloc _);have X2:=q_ (show ar w3 (w.heap.size+1) 9 #[.string name] by rw[hw3,hw2];exact s1▸(ar.new w1 _ _).alloc _);have X3:=q_ (show ar w3 (w.heap.size+2) 3 #[.int .i64 aP] by rw[hw3];exact s2▸ar.new w2 _ _);have B3:=q_ (show Below w.heap.size w w3 by rw[hw3,hw2,bu];exact(((Below.refl _ w).alloc (n_) _).alloc (by simp) _).alloc (by simp;omega) _)
 have K:=Gr aX rfl (KZ l name aP) (fun k W=>k<=l.length/\Below w.heap.size w W/\ar W (w.heap.size+1) 9 #[.string name]/\ar W (w.heap.size+2) 3 #[.int .i64 (wrap64 (aP-(oK l name k:Nat)))]) 242 #[.pointer (some ⟨w.heap.size+1,0,none⟩),.pointer (some ⟨w.heap.size+1+1,0,none⟩)] A l.length c l S w3 GH aI ⟨by omega,B3.o,X2.o,by rw[yj];simpa[Lb aP ho] using X3.o⟩ (fun k W h=>hl.below h.2.1 hS) (by
  rintro k W x u v hk ⟨kY,hb,h2,h3⟩ hx hr;obtain⟨A2,c2,e,-,-,-⟩:=aX.inv hr;injection e with e e2;subst e;refine(TC (w.heap.size+1) (w.heap.size+1+1) (by omega) x.name name v _ W h2 h3).mono ?_
  rintro e w4 ⟨rfl,hg,hb4⟩;have hc:=qW (name:=name) hx;have hle:=Ji l name (k+1);refine⟨?_,by omega,ai hb hg (by omega),h2.aK hg (by omega),?_⟩
  ·rw[Df hx,ym]
   cases he:M.bJ x.name name
   ·simp
   ·rw[he] at hc
    simp only[if_true] at hc;rw[hc];simp only[Bool.true_and];rw[Ending.returned.injEq,Value.bool.injEq,Bool.eq_iff_iff,decide_eq_true_iff,decide_eq_true_iff];exact La aP _ ho (by omega)
  ·rw[ym] at hb4
   rw[hc];cases he:M.bJ x.name name
   ·simpa[he] using hb4
   ·simpa[he] using hb4)
 clear hl aI hS;have KK:=q_ K;clear K;generalize bT l.length (KZ l name aP)=res at*;go_enter Tryz.func172,Tryz.ntmps172;go_wp2_with fail;rw[<-bu,<-hw2,<-hw3];refine KK.o.mono ?_;rintro e w5 ⟨rfl,k,-,cT,-,-⟩;have B5:=q_ cT;clear cT;go_wp2;go_ret;exact⟨rfl,B5.o⟩
theorem gJ(z:β)(l:List β)(n:Int)(h:n<1\/(l.length:Int)<n):M.nth z l n=z:=by
 unfold M.nth;rcases h with h|h
 ·rw[if_pos h]
 ·rw[if_neg (by omega),List.getD_eq_getElem?_getD,List.getElem?_eq_none (by omega)]
  rfl
theorem pK(z x:β)(l:List β)(j:Nat)(h:l[j]? =some x):M.nth z l ((j:Int)+1)=x:=by
 unfold M.nth;rw[if_neg (by omega),List.getD_eq_getElem?_getD,show((j:Int)+1).toNat-1=j by omega,h];rfl
theorem OJ(E:aU α)(hE:E.n=1)(zz:α)(A:Option Addr)(c:Nat)(xs:List α)(n:Int)(S:Nat->Prop)(w:World)(hS:∀b,S b->b<w.heap.size)(hz:E.R w S [.slice none 0 0] zz)(aI:bX A xs.length c)(hl:bn E w S A xs.length xs)(hn:pH n):
 ∃v b,E.R w S [v] (M.nth zz xs n)/\∀W,Below w.heap.size w W->Calls Tryz.prog 206 #[.slice A xs.length c,.int .i64 n] W fun e w'=>e= .returned (.tuple #[v,.bool b])/\Below W.heap.size W w':=by
 have hm:=aI.le;by_cases h1:n<1
 ·have q1:decide (n<1)=true:=by simp[h1]
  refine⟨_,false,by rw[gJ zz xs n (.inl h1)];exact hz,fun W hW=> ?_⟩;clear h1 hW hS hz hl aI;go_enter Tryz.func206,Tryz.ntmps206;go_wp2;go_ret2;exact⟨rfl,Below.refl _ _⟩
 ·have q1:decide (n<1)=false:=by simp[h1]
  by_cases h2:(xs.length:Int)<n
  ·have q2:decide ((xs.length:Int)<n)=true:=by simp[h2]
   refine⟨_,false,by rw[gJ zz xs n (.inr h2)];exact hz,fun W hW=> ?_⟩;clear h1 h2 hW hS hz hl aI;go_enter Tryz.func206,Tryz.ntmps206;go_wp2;go_ret2;exact⟨rfl,Below.refl _ _⟩
  ·obtain⟨j,rfl⟩:∃j:Nat,n=(j:Int)+1:=⟨(n-1).toNat,by omega⟩
   have hj:j<xs.length:=by omega
   have q2:decide ((xs.length:Int)<(j:Int)+1)=false:=by simp;omega
   obtain⟨a,x,v,rfl,hb,hx,hr,hc0⟩:=hl.in1 hE hj;refine⟨v,true,by rw[pK zz x xs j hx];exact hr,fun W hW=> ?_⟩;have hc:=(hW.cell (p:=a.add j) (by rw[az];exact hS _ hb)).trans hc0;clear h1 h2 hx hr hn hc0 hW hS hz hl aI;generalize xs.length=m at*;go_enter Tryz.func206,Tryz.ntmps206;go_wp2;go_ret2;exact⟨rfl,Below.refl _ _⟩
theorem OL(E:aU α)(hE:E.n=1)(zz:α)(A:Option Addr)(c:Nat)(xs:List α)(n:Int)(S:Nat->Prop)(w:World)(hS:∀b,S b->b<w.heap.size)(hz:E.R w S [.slice none 0 0] zz)(aI:bX A xs.length c)(hl:bn E w S A xs.length xs)(hn:pH n):
 ∃v b,E.R w S [v] (M.nth zz xs n)/\∀W,Below w.heap.size w W->Calls Tryz.prog 207 #[.slice A xs.length c,.int .i64 n] W fun e w'=>e= .returned (.tuple #[v,.bool b])/\Below W.heap.size W w':=by
 have hm:=aI.le;by_cases h1:n<1
 ·have q1:decide (n<1)=true:=by simp[h1]
  refine⟨_,false,by rw[gJ zz xs n (.inl h1)];exact hz,fun W hW=> ?_⟩;clear h1 hW hS hz hl aI;go_enter Tryz.func207,Tryz.ntmps207;go_wp2;go_ret2;exact⟨rfl,Below.refl _ _⟩
 ·have q1:decide (n<1)=false:=by simp[h1]
  by_cases h2:(xs.length:Int)<n
  ·have q2:decide ((xs.length:Int)<n)=true:=by simp[h2]
   refine⟨_,false,by rw[gJ zz xs n (.inr h2)];exact hz,fun W hW=> ?_⟩;clear h1 h2 hW hS hz hl aI;go_enter Tryz.func207,Tryz.ntmps207;go_wp2;go_ret2;exact⟨rfl,Below.refl _ _⟩
  ·obtain⟨j,rfl⟩:∃j:Nat,n=(j:Int)+1:=⟨(n-1).toNat,by omega⟩
   have hj:j<xs.length:=by omega
   have q2:decide ((xs.length:Int)<(j:Int)+1)=false:=by simp;omega
   obtain⟨a,x,v,rfl,hb,hx,hr,hc0⟩:=hl.in1 hE hj;refine⟨v,true,by rw[pK zz x xs j hx];exact hr,fun W hW=> ?_⟩;have hc:=(hW.cell (p:=a.add j) (by rw[az];exact hS _ hb)).trans hc0;clear h1 h2 hx hr hn hc0 hW hS hz hl aI;generalize xs.length=m at*;go_enter Tryz.func207,Tryz.ntmps207;go_wp2;go_ret2;exact⟨rfl,Below.refl _ _⟩
theorem OM(E:aU α)(hE:E.n=1)(zz:α)(A:Option Addr)(c:Nat)(xs:List α)(n:Int)(S:Nat->Prop)(w:World)(hS:∀b,S b->b<w.heap.size)(hz:E.R w S [.slice none 0 0] zz)(aI:bX A xs.length c)(hl:bn E w S A xs.length xs)(hn:pH n):
 ∃v b,E.R w S [v] (M.nth zz xs n)/\∀W,Below w.heap.size w W->Calls Tryz.prog 208 #[.slice A xs.length c,.int .i64 n] W fun e w'=>e= .returned (.tuple #[v,.bool b])/\Below W.heap.size W w':=by
 have hm:=aI.le;by_cases h1:n<1
 ·have q1:decide (n<1)=true:=by simp[h1]
  refine⟨_,false,by rw[gJ zz xs n (.inl h1)];exact hz,fun W hW=> ?_⟩;clear h1 hW hS hz hl aI;go_enter Tryz.func208,Tryz.ntmps208;go_wp2;go_ret2;exact⟨rfl,Below.refl _ _⟩
 ·have q1:decide (n<1)=false:=by simp[h1]
  by_cases h2:(xs.length:Int)<n
  ·have q2:decide ((xs.length:Int)<n)=true:=by simp[h2]
   refine⟨_,false,by rw[gJ zz xs n (.inr h2)];exact hz,fun W hW=> ?_⟩;clear h1 h2 hW hS hz hl aI;go_enter Tryz.func208,Tryz.ntmps208;go_wp2;go_ret2;exact⟨rfl,Below.refl _ _⟩
  ·obtain⟨j,rfl⟩:∃j:Nat,n=(j:Int)+1:=⟨(n-1).toNat,by omega⟩
   have hj:j<xs.length:=by omega
   have q2:decide ((xs.length:Int)<(j:Int)+1)=false:=by simp;omega
   obtain⟨a,x,v,rfl,hb,hx,hr,hc0⟩:=hl.in1 hE hj;refine⟨v,true,by rw[pK zz x xs j hx];exact hr,fun W hW=> ?_⟩;have hc:=(hW.cell (p:=a.add j) (by rw[az];exact hS _ hb)).trans hc0;clear h1 h2 hx hr hn hc0 hW hS hz hl aI;generalize xs.length=m at*;go_enter Tryz.func208,Tryz.ntmps208;go_wp2;go_ret2;exact⟨rfl,Below.refl _ _⟩
theorem OO(E:aU α)(hE:E.n=1)(zz:α)(A:Option Addr)(c:Nat)(xs:List α)(n:Int)(S:Nat->Prop)(w:World)(hS:∀b,S b->b<w.heap.size)(hz:E.R w S [.string ⟨#[]⟩] zz)(aI:bX A xs.length c)(hl:bn E w S A xs.length xs)(hn:pH n):
 ∃v b,E.R w S [v] (M.nth zz xs n)/\∀W,Below w.heap.size w W->Calls Tryz.prog 209 #[.slice A xs.length c,.int .i64 n] W fun e w'=>e= .returned (.tuple #[v,.bool b])/\Below W.heap.size W w':=by
 have hm:=aI.le;by_cases h1:n<1
 ·have q1:decide (n<1)=true:=by simp[h1]
  refine⟨_,false,by rw[gJ zz xs n (.inl h1)];exact hz,fun W hW=> ?_⟩;clear h1 hW hS hz hl aI;go_enter Tryz.func209,Tryz.ntmps209;go_wp2;go_ret2;exact⟨rfl,Below.refl _ _⟩
 ·have q1:decide (n<1)=false:=by simp[h1]
  by_cases h2:(xs.length:Int)<n
  ·have q2:decide ((xs.length:Int)<n)=true:=by simp[h2]
   refine⟨_,false,by rw[gJ zz xs n (.inr h2)];exact hz,fun W hW=> ?_⟩;clear h1 h2 hW hS hz hl aI;go_enter Tryz.func209,Tryz.ntmps209;go_wp2;go_ret2;exact⟨rfl,Below.refl _ _⟩
  ·obtain⟨j,rfl⟩:∃j:Nat,n=(j:Int)+1:=⟨(n-1).toNat,by omega⟩
   have hj:j<xs.length:=by omega
   have q2:decide ((xs.length:Int)<(j:Int)+1)=false:=by simp;omega
   obtain⟨a,x,v,rfl,hb,hx,hr,hc0⟩:=hl.in1 hE hj;refine⟨v,true,by rw[pK zz x xs j hx];exact hr,fun W hW=> ?_⟩;have hc:=(hW.cell (p:=a.add j) (by rw[az];exact hS _ hb)).trans hc0;clear h1 h2 hx hr hn hc0 hW hS hz hl aI;generalize xs.length=m at*;go_enter Tryz.func209,Tryz.ntmps209;go_wp2;go_ret2;exact⟨rfl,Below.refl _ _⟩
theorem Ay(m:Nat)(q:Nat->Bool):bT m q= -1\/∃j:Nat,j<m/\bT m q=(j:Int):=by
 unfold bT;split
 ·rename_i k h
  exact .inr ⟨k,List.mem_range.1 (List.mem_of_find?_eq_some h),rfl⟩
 ·exact .inl rfl
theorem yn(l:List M.Seg)(name:ByteArray)(aP:Int):M.at0 l name aP= -1\/∃j:Nat,j<l.length/\M.at0 l name aP=(j:Int):=by
 rw[OI];exact Ay _ _
theorem get_none(m:M.dQ)(p:M.Path)(h:¬(M.bM p=true/\p.aR≠0/\0<=M.at0 m.aH p.aN p.aP)):M.get m p=ByteArray.empty:=by
 unfold M.get;exact if_neg h
theorem Az(d:M.bR)(A:Option Addr)(c:Nat)(l:List M.Seg)(p:M.Path)(S:Nat->Prop)(w:World)(hS:∀b,S b->b<w.heap.size)(aI:bX A l.length c)(hl:bn aX w S A l.length l)(hp:p.jd):
 Calls Tryz.prog 164 #[.agg #[.int .u8 (d.f.toNat:Int),.int .u8 (d.c.toNat:Int),.int .u8 (d.r.toNat:Int),.int .u8 (d.e.toNat:Int),.int .u8 (d.s.toNat:Int),.slice A l.length c],.agg #[.string p.aN,.int .i64 p.aP,.int .i64 p.aR,.int .i64 p.rep,.int .i64 p.comp,.int .i64 p.sub]] w fun e w'=>e= .returned (.string (M.get ⟨d,l⟩ p))/\Below w.heap.size w w':=by
 have KA:=q_ (fun(W:World) (h:Below w.heap.size w W)=>uX d A c l p.aN p.aP S W (fun b hb=>l_ (hS b hb) h.size) aI (hl.below h hS) hp.2.1);have KV:=q_ (fun(W:World)=>gp p W hp.1);have HS:=q_ hS;have HL:=q_ hl;have HG:=q_ (get_none ⟨d,l⟩ p);have hm:=aI.le;obtain⟨w1,bu⟩:∃w1,w1=w.alloc (.cells #[.int .u8 (d.f.toNat:Int),.int .u8 (d.c.toNat:Int),.int .u8 (d.r.toNat:Int),.int .u8 (d.e.toNat:Int),.int .u8 (d.s.toNat:Int),.slice A l.length c] 27):=⟨_,rfl⟩
 obtain⟨w2,hw2⟩:∃w2,w2=w1.alloc (.cells #[.string p.aN,.int .i64 p.aP,.int .i64 p.aR,.int .i64 p.rep,.int .i64 p.comp,.int .i64 p.sub] 127):=⟨_,rfl⟩
 have s1:w1.heap.size=w.heap.size+1:=by rw[bu];simp
 have s2:w2.heap.size=w.heap.size+2:=by rw[hw2];simp[s1]
 have X1:=q_ (show ar w2 w.heap.size 27 #[.int .u8 (d.f.toNat:Int),.int .u8 (d.c.toNat:Int),.int .u8 (d.r.toNat:Int),.int .u8 (d.e.toNat:Int),.int .u8 (d.s.toNat:Int),.slice A l.length c] by rw[hw2,bu];exact(ar.new w _ _).alloc _);have X2:=q_ (show ar w2 (w.heap.size+1) 127 #[.string p.aN,.int .i64 p.aP,.int .i64 p.aR,.int .i64 p.rep,.int .i64 p.comp,.int .i64 p.sub] by rw[hw2];exact s1▸ar.new w1 _ _);have B2:=q_ (show Below w.heap.size w w2 by rw[hw2,bu];exact((Below.refl _ w).alloc (n_) _).alloc (by simp) _);clear hl aI hS;go_enter Tryz.func164,Tryz.ntmps164;go_wp2_with fail;rw[<-bu,<-hw2];clear bu hw2;refine(KA.o _ B2.o).mono ?_
 rintro e w3 ⟨rfl,hb3⟩;have B3:=q_ (B2.o.trans (hb3.mono B2.o.size));have G3:=q_ hb3;have z1:=(X1.o.below hb3 (by omega)).cell;have z2:=(X2.o.below hb3 (by omega)).cell;clear hb3;go_wp2_with fail;refine(KV.o _).mono ?_
 rintro e w4 ⟨rfl,hb4⟩;have B4:=q_ (B3.o.trans (hb4.mono B3.o.size));have G4:=q_ (G3.o.trans (hb4.mono G3.o.size));have z1:=(X1.o.below G4.o (by omega)).cell;have z2:=(X2.o.below G4.o (by omega)).cell;clear hb4;cases hV:M.bM p
 ·have HE:=q_ (HG.o (by rw[hV];simp))
  go_wp2;go_ret;rw[HE.o];exact⟨rfl,B4.o⟩
 ·by_cases hF:p.aR=0
  ·have HE:=q_ (HG.o (by rw[hF];simp))
   have qf:(p.aR==0)=true:=by simp[hF]
   go_wp2;go_ret;rw[HE.o];exact⟨rfl,B4.o⟩
  ·have qf:(p.aR==0)=false:=by simp[hF]
   rcases yn l p.aN p.aP with hi|⟨j,hj,hi⟩
   ·have HE:=q_ (HG.o (by rw[hi];simp))
    rw[hi];go_wp2;go_ret;rw[HE.o];exact⟨rfl,B4.o⟩
   ·obtain⟨a,s,u,v,rfl,hb,hx,hr,hc1,hc2⟩:=HL.o.in2 rfl hj
    obtain⟨Af,cf,e5,-,xu,Jj⟩:=aX.inv hr;injection e5 with e5 e6;injection e6 with e6 _;subst e5 e6;obtain⟨v1,b1,hr1,k1⟩:=OJ cG rfl [] Af cf s.fields p.aR S w HS.o aU.fu xu Jj hp.2.2.1;obtain⟨A1,c1,rfl,ee,dF⟩:=aU.av (E:=jQ) hr1;obtain⟨v2,b2,hr2,k2⟩:=OL jQ rfl [] A1 c1 _ p.rep S w HS.o aU.fu ee dF hp.2.2.2.1;obtain⟨A2,c2,rfl,oJ,hl2⟩:=aU.av (E:=cJ) hr2;obtain⟨v3,b3,hr3,k3⟩:=OM cJ rfl [] A2 c2 _ p.comp S w HS.o aU.fu oJ hl2 hp.2.2.2.2.1;obtain⟨A3,c3,rfl,ly,KJ⟩:=aU.av (E:=bN) hr3;obtain⟨v4,b4,hr4,k4⟩:=OO bN rfl ByteArray.empty A3 c3 _ p.sub S w HS.o (bN.mk (by decide)) ly KJ hp.2.2.2.2.2;obtain⟨rfl,-⟩:=bN.inv hr4
    have gZ:M.get ⟨d,l⟩ p=M.nth ByteArray.empty (M.nth [] (M.nth [] (M.nth [] s.fields p.aR) p.rep) p.comp) p.sub:=by
     unfold M.get;rw[if_pos ⟨hV,hF,by rw[hi];omega⟩,hi];simp[hx]
    rw[<-gZ] at k4;have K1:=q_ k1;have K2:=q_ k2;have K3:=q_ k3;have K4:=q_ k4;have HX:=q_ (fun(x:Ext w4)=>B4.o.trans (x.hb.mono B4.o.size));have HX2:=q_ (fun(x:Ext w4)=>G4.o.trans (x.hb.mono G4.o.size));have C1:=q_ (fun(W:World) (h:Below w.heap.size w W)=>(h.cell (p:=⟨(a.add (j*2)).block,(a.add (j*2)).off+1,none⟩) (by show(a.add (j*2)).block<_;rw[az];exact HS.o _ hb)).trans hc2);have t1:=C1.o _ B4.o;have y1:=fun(x:Ext w4)=>C1.o x.wd (HX.o x);have y2:=fun(x:Ext w4)=>(X1.o.below (HX2.o x) (by omega)).cell;have y3:=fun(x:Ext w4)=>(X2.o.below (HX2.o x) (by omega)).cell;rw[hi];have KR:=q_ (fun(x:Ext w4)=>K1.o _ (HX.o x));clear hx hr hc1 hc2 hr1 hr2 hr3 hr4 ee oJ ly xu dF hl2 KJ Jj k1 k2 k3 k4 hi gZ;go_wp2_with fail;refine eA (by kernel_rfl) (by kernel_rfl) ?_
    repeat(first|go_big_quiet_step ((go_at_call 206;exact Ext.calls _ (KR.o _)))|quiet_step ((go_at_call 206;exact Ext.calls _ (KR.o _))))
    refine wpQuiet_nil ?_;intro w5 cT;have B5:=q_ (B4.o.trans (cT.mono B4.o.size));have G5:=q_ (G4.o.trans (cT.mono G4.o.size));clear y1 y2 y3 t1 cT;have z1:=(X1.o.below G5.o (by omega)).cell;have z2:=(X2.o.below G5.o (by omega)).cell;go_wp2_with fail;refine(K2.o _ B5.o).mono ?_
    rintro e w6 ⟨rfl,dw⟩;have B6:=q_ (B5.o.trans (dw.mono B5.o.size));have G6:=q_ (G5.o.trans (dw.mono G5.o.size));have z1:=(X1.o.below G6.o (by omega)).cell;have z2:=(X2.o.below G6.o (by omega)).cell;clear dw;go_wp2_with fail;refine(K3.o _ B6.o).mono ?_
    rintro e w7 ⟨rfl,gW⟩;have B7:=q_ (B6.o.trans (gW.mono B6.o.size));have G7:=q_ (G6.o.trans (gW.mono G6.o.size));have z1:=(X1.o.below G7.o (by omega)).cell;have z2:=(X2.o.below G7.o (by omega)).cell;clear gW;go_wp2_with fail;refine(K4.o _ B7.o).mono ?_
    rintro e w8 ⟨rfl,Jk⟩;have B8:=q_ (B7.o.trans (Jk.mono B7.o.size));clear Jk;go_wp2_with fail;go_ret;exact⟨rfl,B8.o⟩
theorem xv(s:ByteArray):(s.toList !=[])= !s.data.toList.isEmpty:=by
 rw[ByteArray.toList_eq];cases s.data.toList<;>rfl
theorem TD(d:M.bR)(A:Option Addr)(c:Nat)(l:List M.Seg)(p:M.Path)(S:Nat->Prop)(w:World)(hS:∀b,S b->b<w.heap.size)(aI:bX A l.length c)(hl:bn aX w S A l.length l)(hp:p.jd):
 Calls Tryz.prog 230 #[.agg #[.int .u8 (d.f.toNat:Int),.int .u8 (d.c.toNat:Int),.int .u8 (d.r.toNat:Int),.int .u8 (d.e.toNat:Int),.int .u8 (d.s.toNat:Int),.slice A l.length c],.agg #[.string p.aN,.int .i64 p.aP,.int .i64 p.aR,.int .i64 p.rep,.int .i64 p.comp,.int .i64 p.sub]] w fun e w'=>e= .returned (.bool (M.has ⟨d,l⟩ p))/\Below w.heap.size w w':=by
 have KA:=q_ (fun(W:World) (h:Below w.heap.size w W)=>uX d A c l p.aN p.aP S W (fun b hb=>l_ (hS b hb) h.size) aI (hl.below h hS) hp.2.1);have KG:=q_ (fun(W:World) (h:Below w.heap.size w W)=>Az d A c l p S W (fun b hb=>l_ (hS b hb) h.size) aI (hl.below h hS) hp);have KV:=q_ (fun(W:World)=>gp p W hp.1);obtain⟨w1,bu⟩:∃w1,w1=w.alloc (.cells #[.int .u8 (d.f.toNat:Int),.int .u8 (d.c.toNat:Int),.int .u8 (d.r.toNat:Int),.int .u8 (d.e.toNat:Int),.int .u8 (d.s.toNat:Int),.slice A l.length c] 27):=⟨_,rfl⟩
 obtain⟨w2,hw2⟩:∃w2,w2=w1.alloc (.cells #[.string p.aN,.int .i64 p.aP,.int .i64 p.aR,.int .i64 p.rep,.int .i64 p.comp,.int .i64 p.sub] 127):=⟨_,rfl⟩
 have s1:w1.heap.size=w.heap.size+1:=by rw[bu];simp
 have s2:w2.heap.size=w.heap.size+2:=by rw[hw2];simp[s1]
 have X1:=q_ (show ar w2 w.heap.size 27 #[.int .u8 (d.f.toNat:Int),.int .u8 (d.c.toNat:Int),.int .u8 (d.r.toNat:Int),.int .u8 (d.e.toNat:Int),.int .u8 (d.s.toNat:Int),.slice A l.length c] by rw[hw2,bu];exact(ar.new w _ _).alloc _);have X2:=q_ (show ar w2 (w.heap.size+1) 127 #[.string p.aN,.int .i64 p.aP,.int .i64 p.aR,.int .i64 p.rep,.int .i64 p.comp,.int .i64 p.sub] by rw[hw2];exact s1▸ar.new w1 _ _);have B2:=q_ (show Below w.heap.size w w2 by rw[hw2,bu];exact((Below.refl _ w).alloc (n_) _).alloc (by simp) _);have HH:=q_ (show M.has ⟨d,l⟩ p=(M.bM p&&if p.aR=0 then decide (0<=M.at0 l p.aN p.aP) else !(M.get ⟨d,l⟩ p).data.toList.isEmpty) from rfl);clear hl aI hS hp;generalize l.length=m at*;go_enter Tryz.func230,Tryz.ntmps230;go_wp2_with fail;rw[<-bu,<-hw2];clear bu hw2;refine(KV.o _).mono ?_
 rintro e w3 ⟨rfl,hb3⟩;have B3:=q_ (B2.o.trans (hb3.mono B2.o.size));have z1:=(X1.o.below hb3 (by omega)).cell;have z2:=(X2.o.below hb3 (by omega)).cell;clear hb3;cases hV:M.bM p
 ·go_wp2
  go_ret;exact⟨by rw[HH.o,hV];rfl,B3.o⟩
 ·by_cases hF:p.aR=0
  ·have qf:(p.aR==0)=true:=by simp[hF]
   go_wp2_with fail;refine(KA.o _ B3.o).mono ?_
   rintro e w4 ⟨rfl,hb4⟩;have B4:=q_ (B3.o.trans (hb4.mono B3.o.size));clear hb4;go_wp2;go_ret;exact⟨by rw[HH.o,hV,if_pos hF];simp,B4.o⟩
  ·have qf:(p.aR==0)=false:=by simp[hF]
   go_wp2_with fail;refine(KG.o _ B3.o).mono ?_
   rintro e w4 ⟨rfl,hb4⟩;have B4:=q_ (B3.o.trans (hb4.mono B3.o.size));clear hb4;have hq:=xv (M.get ⟨d,l⟩ p);go_wp2;go_ret;exact⟨by rw[HH.o,hV,if_neg hF];simp[ByteArray.toList_eq],B4.o⟩
theorem yo(d:M.bR)(A:Option Addr)(c:Nat)(l:List M.Seg)(name:ByteArray)(S:Nat->Prop)(w:World)(hS:∀b,S b->b<w.heap.size)(aI:bX A l.length c)(hl:bn aX w S A l.length l):
 Calls Tryz.prog 170 #[.agg #[.int .u8 (d.f.toNat:Int),.int .u8 (d.c.toNat:Int),.int .u8 (d.r.toNat:Int),.int .u8 (d.e.toNat:Int),.int .u8 (d.s.toNat:Int),.slice A l.length c],.string name] w fun e w'=>e= .returned (.int .i64 (M.count ⟨d,l⟩ name))/\Below w.heap.size w w':=by
 have hm:=aI.le;have HL:=q_ hl;have HS:=q_ hS;have HC:=q_ (show M.count ⟨d,l⟩ name=oK l name l.length by unfold oK M.count;rw[List.take_length]);have HN:=q_ (fun k s (h:l[k]? =some s)=>qW (name:=name) h);have HZ:=q_ (Ji l name);generalize xk:l.length=m at*;clear hl hS aI;obtain⟨w1,bu⟩:∃w1,w1=w.alloc (.cells #[.int .u8 (d.f.toNat:Int),.int .u8 (d.c.toNat:Int),.int .u8 (d.r.toNat:Int),.int .u8 (d.e.toNat:Int),.int .u8 (d.s.toNat:Int),.slice A m c] 27):=⟨_,rfl⟩
 have X1:=q_ (show ar w1 w.heap.size 27 #[.int .u8 (d.f.toNat:Int),.int .u8 (d.c.toNat:Int),.int .u8 (d.r.toNat:Int),.int .u8 (d.e.toNat:Int),.int .u8 (d.s.toNat:Int),.slice A m c] by rw[bu];exact ar.new w _ _);have B1:=q_ (show Below w.heap.size w w1 by rw[bu];exact(Below.refl _ w).alloc (n_) _);have s1:w1.heap.size=w.heap.size+1:=by rw[bu];simp
 have z1:=X1.o.cell;go_enter Tryz.func170,Tryz.ntmps170;go_wp2_with fail;rw[<-bu];clear bu;go_wp2_with fail;go_loopw [5,11] (fun x y wr=>∃k:Nat,k<=m/\x= .int .i64 (oK l name k:Nat)/\y= .int .i64 k/\Below w.heap.size w wr) (fun _ y _=>m-(intOf y).toNat)
 case atStart=>exact⟨0,by omega,rfl,rfl,B1.o⟩
 case round=>
  obtain⟨k,hk,rfl,rfl,bS⟩:=hrel;have HB:=q_ bS;clear bS;by_cases hlt:k<m
  ·have q1:decide ((k:Int)<(m:Int))=true:=by simp;omega
   obtain⟨a,s,u,v,rfl,hb,hx,hr,hc1,hc2⟩:=(HL.o.below HB.o HS.o).in2 rfl (by rw[<-xk] at hlt;exact xk▸hlt);obtain⟨Af,cf,e5,-,-,-⟩:=aX.inv hr;injection e5 with e5 e6;injection e6 with e6 _;subst e5 e6;have hs:=HN.o k s hx;have hz:=HZ.o k;have hq:=fy s.name name;have E2:=q_ (ar.new wr 48 #[.string s.name,.slice Af s.fields.length cf]);have B2:=q_ (HB.o.alloc HB.o.size (.cells #[.string s.name,.slice Af s.fields.length cf] 48));have z2:=E2.o.cell;clear hx hr;cases ht:M.bJ s.name name
   ·rw[ht] at hq hs
    go_wp2_with fail;go_roundw
    case rel=>exact⟨k+1,by omega,by rw[hs];simp,by go_num,B2.o⟩
    case measure=>simp[intOf];omega
   ·rw[ht] at hq hs
    go_wp2_with fail;go_roundw
    case rel=>exact⟨k+1,by omega,by rw[hs];go_num,by go_num,B2.o⟩
    case measure=>simp[intOf];omega
  ·have q1:decide ((k:Int)<(m:Int))=false:=by simp;omega
   go_wp2;go_ret;exact⟨by rw[HC.o,show k=m by omega];rfl,HB.o⟩
end
section
open Go Go.RowKit Go.Maps Go.MapKept Go.ChangeMaps
def cY(P:Program)(k:TypeId){κ:Type}(enc:κ->Value)(w:World)(b:Nat)(f:κ->Option Value):Prop:=
 ∃es clock,w.heap[b]? =some (.map es clock)/\(∀e∈es.toList,(∃kl,keyOf P k e.key=some kl)/\∃x,e.key=enc x/\f x=some e.val)/\(∀x v,f x=some v->∃e∈es.toList,e.key=enc x/\e.val=v)/\(∀(i j:Nat) (ei ej:MapEntry),es[i]? =some ei->es[j]? =some ej->ei.key=ej.key->i=j)/\Stamped es clock
section
variable {P:Program} {k:TypeId} {κ:Type} {enc:κ->Value} {w w':World} {b:Nat} {f:κ->Option Value}
theorem cY.lt(h:cY P k enc w b f):b<w.heap.size:=by
 obtain⟨es,clock,hb,_⟩:=h;exact(Array.getElem?_eq_some_iff.1 hb).1
theorem cY.keep(h:cY P k enc w b f)(hb:w'.heap[b]? =w.heap[b]?):cY P k enc w' b f:=by
 obtain⟨es,clock,h1,h2⟩:=h;exact⟨es,clock,hb.trans h1,h2⟩
theorem cY.stays(h:cY P k enc w b f)(hs:aj w w'):cY P k enc w' b f:=h.keep (hs.block b h.lt)
theorem cY.below{B:Nat}(h:cY P k enc w b f)(hs:Below B w w')(hb:b<B):cY P k enc w' b f:=h.keep (hs.block b hb)
theorem cY.grown{row:Option Nat}(h:cY P k enc w b f)(hg:w.grownBy w' row)(hne:some b≠row):cY P k enc w' b f:=h.keep (hg.block b h.lt hne)
theorem cY.made(w:World)(P:Program)(k:TypeId)(enc:κ->Value):cY P k enc (w.alloc (.map #[] 0)) w.heap.size (fun _=>none):=
 ⟨#[],0,(MapKept.heap_alloc w _).1,fun e he=>by simp at he,(fun x v hv=>by cases hv),fun i j ei ej hi=>by simp at hi,stamped_empty 0⟩
theorem cY.congr{g:κ->Option Value}(h:cY P k enc w b f)(e:∀x,f x=g x):cY P k enc w b g:=by
 have:f=g:=funext e;exact this▸h
theorem cY.look{t e:TypeId}(h:cY P k enc w b f)(K:Keyed P k)(ht:P.underlying t=some (.map k e))(lB:∀x y,enc x=enc y->x=y){x:κ}{kl:Lit}(hkey:keyOf P k (enc x)=some kl){z:Value}(hz:(zeroValue e).run P w= .ok z w)(c:Bool):
 (Instr.lookup t (.map (some b)) (enc x) c).run P w= .ok (if c then .tuple #[(f x).getD z,.bool (f x).isSome] else(f x).getD z) w:=by
 obtain⟨es,clock,hb,h1,h2,h3,hst⟩:=h;rcases K.find w hkey es.toList (fun e he=>(h1 e he).1) with⟨hf,hno⟩|⟨j,e0,hf,hj,hk⟩
 ·have hn:f x=none:=by
   cases hx:f x with
   |none=>rfl
   |some v=>
    obtain⟨e,he,hk,_⟩:=h2 x v hx;exact absurd hk (hno e he)
  rw[hn];simp[Instr.lookup,run_underlying ht,MapKept.run_getObj_map hb,K.check w _ hkey,hf,hz,Result.andThen]
 ·obtain⟨_,y,hy,hv⟩:=h1 e0 (m_ hj)
  have:y=x:=lB _ _ (hy.symm.trans hk);subst this;rw[hv];simp[Instr.lookup,run_underlying ht,MapKept.run_getObj_map hb,K.check w _ hkey,hf,Result.andThen]
theorem cY.store[DecidableEq κ]{t e:TypeId}(h:cY P k enc w b f)(K:Keyed P k)(ht:P.underlying t=some (.map k e))(lB:∀x y,enc x=enc y->x=y){x:κ}{kl:Lit}(hkey:keyOf P k (enc x)=some kl)(v:Value):
 ∃w',(Instr.mapUpdate t (.map (some b)) (enc x) v).run P w= .ok () w'/\cY P k enc w' b (fun y=>if y=x then some v else f y)/\w.grownBy w' (some b):=by
 obtain⟨es,clock,hb,h1,h2,h3,hst⟩:=h;have hgrow:∀o,w.grownBy (setBlock w b o) (some b):=fun o=>⟨rfl,rfl,rfl,by simp[setBlock],fun i _ hi=>heap_setBlock_other hb _ (fun e=>hi (by rw[e]))⟩
 rcases K.find w hkey es.toList (fun e he=>(h1 e he).1) with⟨hf,hno⟩|⟨j,e0,hf,hj,hk⟩
 ·refine⟨setBlock w b (.map (es.push ⟨enc x,v,clock⟩) (clock+1)),by simp[Instr.mapUpdate,run_underlying ht,MapKept.run_getObj_map hb,K.check w false hkey,hf,MapKept.run_setObj_map _ hb,Result.andThen,setBlock],⟨_,_,heap_setBlock_same hb _,fun e he=> ?_,fun y u hy=> ?_,fun i j ei ej hi hj he=> ?_,stamped_push hst hno⟩,hgrow _⟩
  ·simp only[Array.toList_push,List.mem_append,List.mem_singleton] at he
   rcases he with he|rfl
   ·obtain⟨nM,y,hy,hv⟩:=h1 e he
    refine⟨nM,y,hy,?_⟩;show(if y=x then some v else f y)=some e.val
    rw[if_neg (fun hc=>hno e he (by rw[hy,hc]))];exact hv
   ·exact⟨⟨kl,hkey⟩,x,rfl,if_pos rfl⟩
  ·simp only[Array.toList_push,List.mem_append,List.mem_singleton]
   by_cases hc:y=x
   ·subst hc
    replace hy:(if y=y then some v else f y)=some u:=hy;rw[if_pos rfl] at hy;cases hy;exact⟨_,.inr rfl,rfl,rfl⟩
   ·replace hy:(if y=x then some v else f y)=some u:=hy
    rw[if_neg hc] at hy;obtain⟨e,he,hr⟩:=h2 y u hy;exact⟨e,.inl he,hr⟩
  ·have old:∀(n:Nat) (en:MapEntry),es[n]? =some en->en.key≠enc x:=fun n en hn=>hno en (m_ (i:=n) (by rw[Array.getElem?_toList];exact hn))
   rw[Array.getElem?_push] at hi hj;by_cases hi':i=es.size<;>by_cases hj':j=es.size
   ·omega
   ·rw[if_pos hi'] at hi
    rw[if_neg hj'] at hj;cases hi;exact absurd he.symm (old j ej hj)
   ·rw[if_neg hi'] at hi
    rw[if_pos hj'] at hj;cases hj;exact absurd he (old i ei hi)
   ·rw[if_neg hi'] at hi
    rw[if_neg hj'] at hj;exact h3 i j ei ej hi hj he
 ·have hj':es[j]? =some e0:=by simpa using hj
  have gZ:∀(n:Nat) (en:MapEntry),(es.modify j fun e=>{e with key:=enc x,val:=v})[n]? =some en->(n=j/\en={e0 with key:=enc x,val:=v})\/(n≠j/\es[n]? =some en):=fun n en hn=>by
   rw[Array.getElem?_modify] at hn;by_cases GJ:j=n
   ·subst GJ
    rw[if_pos rfl,hj'] at hn;simp at hn;exact .inl ⟨rfl,hn.symm⟩
   ·rw[if_neg GJ] at hn
    exact .inr ⟨fun e=>GJ e.symm,hn⟩
  have GK:∀(n:Nat) (en:MapEntry),n≠j->es[n]? =some en->en.key≠enc x:=fun n en hne hn hc=>hne (h3 n j en e0 hn hj' (hc.trans hk.symm));refine⟨setBlock w b (.map (es.modify j fun e=>{e with key:=enc x,val:=v}) clock),by simp[Instr.mapUpdate,run_underlying ht,MapKept.run_getObj_map hb,K.check w false hkey,hf,hj',hk,K.stays w hkey,MapKept.run_setObj_map _ hb,Result.andThen,setBlock],⟨_,_,heap_setBlock_same hb _,fun e he=> ?_,fun y u hy=> ?_,fun i l ei el hi hl he=> ?_,stamped_modify hst j _ (fun _ _=>rfl) (fun e _ he=>by rw[hj'] at he;cases he;exact hk.symm)⟩,hgrow _⟩
  ·obtain⟨i,hi⟩:=List.getElem?_of_mem he
   rw[Array.getElem?_toList] at hi;rcases gZ i e hi with⟨_,rfl⟩|⟨hne,hi⟩
   ·exact⟨⟨kl,hkey⟩,x,rfl,if_pos rfl⟩
   ·obtain⟨nM,y,hy,hv⟩:=h1 e (m_ (i:=i) (by rw[Array.getElem?_toList];exact hi))
    exact⟨nM,y,hy,(if_neg (fun hc=>GK i e hne hi (by rw[hy,hc]))).trans hv⟩
  ·by_cases hc:y=x
   ·subst hc
    replace hy:(if y=y then some v else f y)=some u:=hy;rw[if_pos rfl] at hy;cases hy;exact⟨{e0 with key:=enc y,val:=v},m_ (i:=j) (by rw[Array.getElem?_toList,Array.getElem?_modify,if_pos rfl,hj'];rfl),rfl,rfl⟩
   ·replace hy:(if y=x then some v else f y)=some u:=hy
    rw[if_neg hc] at hy;obtain⟨e,he,hek,hev⟩:=h2 y u hy;obtain⟨i,hi⟩:=List.getElem?_of_mem he;rw[Array.getElem?_toList] at hi
    have hne:j≠i:=by
     intro e1;subst e1;rw[hj'] at hi;cases hi;exact hc (lB _ _ (hek.symm.trans hk))
    exact⟨e,m_ (i:=i) (by rw[Array.getElem?_toList,Array.getElem?_modify,if_neg hne];exact hi),hek,hev⟩
  ·rcases gZ i ei hi with⟨e1,r1⟩|⟨n1,g1⟩<;>rcases gZ l el hl with⟨e2,r2⟩|⟨n2,g2⟩
   ·omega
   ·subst r1
    exact absurd he.symm (GK l el n2 g2)
   ·subst r2
    exact absurd he (GK i ei n1 g1)
   ·exact h3 i l ei el g1 g2 he
end
end
section
open Go Go.RowKit Go.BigFrame Go.Maps
theorem ma:laidOutB Tryz.prog=true:=by kernel_rfl
theorem OP:(127:TypeId)<Tryz.prog.types.size:=of_decide_eq_true (by kernel_rfl)
theorem Lc:(match Tryz.prog.underlying 127 with|some (.array _ _)|some (.struct _)=>true|_=>false)=true:=by kernel_rfl
theorem Ld:Tryz.prog.keyTypeAt 3 127=true:=by kernel_rfl
theorem uY:Keyed Tryz.prog 127:=Keyed.of_law (deep_law_laid ma (m:=3) (by omega) OP Ld Lc)
theorem uZ:Tryz.prog.cellsOf 127=6:=by kernel_rfl
theorem Le:Tryz.prog.keyType 127=true:=by kernel_rfl
theorem yq:Tryz.prog.cellsOf 9=1:=by kernel_rfl
theorem yt:Tryz.prog.cellsOf 3=1:=by kernel_rfl
theorem yu:∃n,Tryz.prog.types.size=n+2:=⟨Tryz.prog.types.size-2,by
 have:decide (2<=Tryz.prog.types.size)=true:=by kernel_rfl
 have:=of_decide_eq_true this;omega⟩
theorem qX{n:Int}(h:pH n):(Lit.int .i64 n).wf=true:=by
 unfold pH at h;show(decide (IntKind.i64.min<=n)&&decide (n<=IntKind.i64.max))=true
 rw[show IntKind.i64.min= -9223372036854775808 from rfl,show IntKind.i64.max=9223372036854775807 from rfl,decide_eq_true h.1,decide_eq_true h.2];rfl
theorem Dh{P:Program}{k ts ti:TypeId}{g0 g1 g2 g3 g4 g5:Field}(hu:P.underlying k=some (.struct #[g0,g1,g2,g3,g4,g5]))(us:P.underlying ts=some .string)(ui:P.underlying ti=some (.int .i64))(t0:g0.type=ts)(t1:g1.type=ti)(t2:g2.type=ti)(t3:g3.type=ti)(t4:g4.type=ti)(t5:g5.type=ti)(o0:g0.offset=0)(o1:g1.offset=1)(o2:g2.offset=2)(o3:g3.offset=3)(o4:g4.offset=4)(o5:g5.offset=5)(n0:g0.name≠ "_")(n1:g1.name≠ "_")(n2:g2.name≠ "_")(n3:g3.name≠ "_")(n4:g4.name≠ "_")(n5:g5.name≠ "_")(hk:P.keyType k=true)(hc:P.cellsOf k=6)(cs:P.cellsOf ts=1)(ci:P.cellsOf ti=1){n:Nat}(hn:P.types.size=n+2)(s:ByteArray)(o a b c d:Int)(hs:s.size<=maxLen)(ho:(Lit.int .i64 o).wf=true)(ha:(Lit.int .i64 a).wf=true)(hb:(Lit.int .i64 b).wf=true)(hc':(Lit.int .i64 c).wf=true)(hd:(Lit.int .i64 d).wf=true):
 ∃kl,keyOf P k (.agg #[.string s,.int .i64 o,.int .i64 a,.int .i64 b,.int .i64 c,.int .i64 d])=some kl:=by
 simp[keyOf,hu,hk,Value.formed,hc,hn,Program.keyLits,Value.cells,t0,t1,t2,t3,t4,t5,o0,o1,o2,o3,o4,o5,n0,n1,n2,n3,n4,n5,us,ui,cs,ci,hs,ho,ha,hb,hc',hd]
theorem vd(s:ByteArray)(o a b c d:Int)(hs:s.size<=1048576)(ho:pH o)(ha:pH a)(hb:pH b)(hc:pH c)(hd:pH d):∃kl,keyOf Tryz.prog 127 (.agg #[.string s,.int .i64 o,.int .i64 a,.int .i64 b,.int .i64 c,.int .i64 d])=some kl:=by
 obtain⟨g0,g1,g2,g3,g4,g5,hu,⟨t0,o0,n0⟩,⟨t1,o1,n1⟩,⟨t2,o2,n2⟩,⟨t3,o3,n3⟩,⟨t4,o4,n4⟩,⟨t5,o5,n5⟩⟩:=r8;obtain⟨n,hn⟩:=yu;exact Dh hu Tryz.underlying9 Tryz.underlying3 t0 t1 t2 t3 t4 t5 o0 o1 o2 o3 o4 o5 n0 n1 n2 n3 n4 n5 Le uZ yq yt hn s o a b c d (t_ hs (by decide)) (qX ho) (qX ha) (qX hb) (qX hc) (qX hd)
end
section
open Go Go.RowKit Go.BigFrame
theorem dT(s:ByteArray)(w:World)(hs:s.size<=281474976710656):Calls Tryz.prog 53 #[.string s] w fun e w'=>e= .returned (.string s)/\Below w.heap.size w w':=by
 have K:=q_ (fun W=>Tryz.stringslite_Clone s W hs);go_enter Tryz.func53,Tryz.ntmps53;go_wp2_with fail;refine(K.o _).mono ?_
 rintro e w2 ⟨rfl,hb⟩;have HB:=q_ hb;clear hb;go_wp2;go_ret;exact⟨rfl,HB.o⟩
theorem pL(p:α->Bool)(l:List α):(l.dropWhile p).length<=l.length:=(List.dropWhile_suffix p).sublist.length_le
theorem OQ(l cs:List UInt8):(Lib.trimS l cs).length<=l.length:=by
 unfold Lib.trimS Lib.trimLeftS Lib.trimRightS;refine t_ (pL _ _) ?_;rw[List.length_reverse];refine t_ (pL _ _) ?_;rw[List.length_reverse];exact n_
theorem Xv(l:List UInt8):(M.T l).size=l.length:=by simp[M.T,ByteArray.size]
theorem Jl(s:ByteArray):(M.trim s).size<=s.size:=by
 unfold M.trim;rw[Xv];refine t_ (OQ _ _) ?_;exact Nat.le_of_eq (Array.length_toList (xs:=s.data))
theorem AA(s:ByteArray)(w:World)(hs:s.size<=1048576):Calls Tryz.prog 216 #[.string s] w fun e w'=>e= .returned (.string (M.trim s))/\Below w.heap.size w w':=by
 have KT:=q_ (fun(W:World)=>Tryz.pA info232 s ⟨#[32,9,10,13]⟩ W (by omega) (by decide) (ascii_of_all (by decide)));have KC:=q_ (fun(W:World)=>dT (M.trim s) W (by have:=Jl s;omega));go_enter Tryz.func216,Tryz.ntmps216;go_wp2_with fail;refine(KT.o _).mono ?_
 rintro e w2 ⟨rfl,hb⟩;have HB:=q_ hb;clear hb;go_wp2_with fail;refine(KC.o w2).mono ?_
 rintro e w3 ⟨rfl,hb⟩;have j9:=q_ (HB.o.trans (hb.mono HB.o.size));clear hb;go_wp2;go_ret;exact⟨rfl,j9.o⟩
theorem AB(s part:ByteArray)(m:Int)(w:World)(hs:s.size<=1048576)(hm:w.cell? ⟨0,0,none⟩=some (.int .i64 m)):Calls Tryz.prog 220 #[.string s,.string part] w fun e w'=>e= .returned (.int .i64 (M.find s part))/\Below w.heap.size w w':=by
 have KT:=q_ (Tryz.strings_Index s part m w (by omega) hm);have h1:=Lib.index_ge s.data.toList part.data.toList;have h2:=Lib.index_le s.data.toList part.data.toList;have h3:s.data.toList.length=s.size:=Array.length_toList;have HF:=q_ (show M.find s part=Lib.index s.data.toList part.data.toList+1 from rfl);generalize Lib.index s.data.toList part.data.toList=i at*;have q1:wrap64 (i+1)=i+1:=by unfold wrap64;omega
 clear hm;go_enter Tryz.func220,Tryz.ntmps220;go_wp2_with fail;refine KT.o.mono ?_;rintro e w2 ⟨rfl,rfl⟩;go_wp2;go_ret;rw[HF.o];exact⟨by simp[],Below.refl _ _⟩
theorem Lf(s:ByteArray)(x y:Nat):s.extract x y=M.T (((M.L s).drop x).take (y-x)):=by
 have h:(s.extract x y).data.toList=((M.L s).drop x).take (y-x):=by
  rw[ByteArray.data_extract,Array.toList_extract,List.extract_eq_take_drop];rfl
 unfold M.T;rw[<-h]
theorem sub_eq(s:ByteArray)(a n:Int):s.extract (min (max a 0) (s.size:Int)).toNat (min (max a 0) (s.size:Int)+min (max n 0) ((s.size:Int)-min (max a 0) (s.size:Int))).toNat=M.sub s a n:=by
 rw[Lf];unfold M.sub;have e1:(min (max a 0) (s.size:Int)).toNat=(M.kr a 0 s.size).toNat:=by unfold M.kr;split<;>(try split)<;>omega
 have e2:(min (max a 0) (s.size:Int)+min (max n 0) ((s.size:Int)-min (max a 0) (s.size:Int))).toNat-(min (max a 0) (s.size:Int)).toNat=(M.kr n 0 ((s.size-(M.kr a 0 s.size).toNat:Nat):Int)).toNat:=by
  rw[<-e1];unfold M.kr;split<;>(try split)<;>omega
 rw[e2,e1]
theorem Di(s:ByteArray)(a n:Int)(w:World)(hs:s.size<=1048576)(ha:pH a)(hn:pH n):Calls Tryz.prog 218 #[.string s,.int .i64 a,.int .i64 n] w fun e w'=>e= .returned (.string (M.sub s a n))/\Below w.heap.size w w':=by
 have KC:=q_ (fun(W:World) (t:ByteArray) (h:t.size<=1048576)=>dT t W (by omega));have HB:=q_ (show(M.sub s a n).size<=1048576 by rw[<-sub_eq];simp[ByteArray.size_extract];omega);go_enter Tryz.func218,Tryz.ntmps218;go_wp2_with fail;rw[sub_eq];refine(KC.o _ _ HB.o).mono ?_
 rintro e w2 ⟨rfl,hb⟩;have HB:=q_ hb;clear hb;go_wp2;go_ret;exact⟨by first|rfl|rw[sub_eq],HB.o⟩
end
section
open Go
open Go.RowKit Go.BigFrame
def cL(w:World)(g:Nat)(l:List UInt8):Prop:=
 ∃cs t m,w.heap[g]? =some (.cells cs t (m,m+1))/\l.length<=m/\∀i,i<l.length->cs[i]? =(bD l)[i]?
theorem cL.cell(h:cL w g l)(i:Nat)(hi:i<l.length):w.cell? ⟨g,i,none⟩=some (.int .u8 (l[i].toNat:Int)):=by
 obtain⟨cs,t,m,h1,h2,h3⟩:=h;rw[cell_of_row w g i cs t _ h1,h3 i hi,jl];simp[hi]
theorem cL.frozen(h:cL w g l)(i:Nat)(hi:i<l.length):w.frozen? ⟨g,i,none⟩=false:=by
 obtain⟨cs,t,m,h1,h2,h3⟩:=h;simp[World.frozen?,h1];omega
theorem cL.fK(h:cL w g l)(i:Nat)(hi:i<l.length)(b:UInt8):cL (w.setCell ⟨g,i,none⟩ (.int .u8 (b.toNat:Int))) g (l.set i b):=by
 obtain⟨cs,t,m,h1,h2,h3⟩:=h;refine⟨cs.setIfInBounds i (.int .u8 (b.toNat:Int)),t,m,by simp[World.setCell,Array.getElem?_modify,h1],by simpa using h2,fun j hj=> ?_⟩;rw[<-jm];by_cases GL:i=j
 ·subst GL
  rw[Array.getElem?_setIfInBounds_self,Array.getElem?_setIfInBounds_self];have h4:=h3 i hi;have hc:i<(bD l).size:=by rw[dU];exact hi
  rw[Array.getElem?_eq_getElem hc] at h4
  have hcs:i<cs.size:=by
   rcases Nat.lt_or_ge i cs.size with h|h
   ·exact h
   ·rw[Array.getElem?_eq_none h] at h4;cases h4
  simp[hcs,hc]
 ·rw[Array.getElem?_setIfInBounds_ne GL,Array.getElem?_setIfInBounds_ne GL]
  exact h3 j (by simpa using hj)
theorem cL.lt(h:cL w g l):g<w.heap.size:=by
 obtain⟨cs,t,m,h1,_⟩:=h;rcases Nat.lt_or_ge g w.heap.size with hlt|dS
 ·exact hlt
 ·rw[Array.getElem?_eq_none dS] at h1;cases h1
theorem cL.below{w':World}{B:Nat}(h:cL w g l)(hb:Below B w w')(hg:g<B):cL w' g l:=by
 obtain⟨cs,t,m,h1,h2⟩:=h;exact⟨cs,t,m,(hb.block g hg).trans h1,h2⟩
theorem cL.string{c:Nat}(h:cL w g l):
 (convert 91 9 (.slice (some ⟨g,0,none⟩) l.length c)).run Tryz.prog w= .ok (.string ⟨l.toArray⟩) w:=by
 have h1:=run_convert_bytes_arg (P:=Tryz.prog) w 91 5 Tryz.underlying91 Tryz.underlying5 g 0 l.length c (l.map fun b=>(b.toNat:Int)) (by simp) (fun i hi=>by
  rw[Nat.zero_add,h.cell i hi];simp[hi]) 9 Tryz.underlying9
 rw[h1];have he:((fun n:Int=>UInt8.ofNat n.toNat)∘fun b:UInt8=>(b.toNat:Int))=id:=by funext b;simp
 simp[strOfNums,he]
theorem OS(w:World)(s:ByteArray):∃c W2,(convert 9 91 (.string s)).run Tryz.prog w= .ok (.slice (some ⟨w.heap.size,0,none⟩) s.size c) W2/\s.size<=c/\cL W2 w.heap.size s.data.toList/\Below w.heap.size w W2:=by
 have h:=Lib.run_convert_string_bytes (P:=Tryz.prog) w 9 91 5 s Tryz.underlying9 Tryz.underlying91 Tryz.underlying5;refine⟨_,_,h,?_,?_,?_⟩
 ·exact grownCap_ge _ _ _ _
 ·refine⟨_,_,_,Lib.bytesWorld_at_new w _ s,?_,?_⟩
  ·simp[Lib.bytesCells]
  ·intro i hi
   have hi':i<s.data.size:=by simpa using hi
   simp[Lib.bytesCells,Array.getElem?_append,bD];intro h;have:s.data.size=s.size:=rfl;omega
 ·refine⟨rfl,rfl,rfl,by rw[Lib.bytesWorld_size];omega,fun k hk=>Lib.bytesWorld_at_old w _ s k hk⟩
end
end Go.Proofs.YtpohlhkgbmdieaaGreatDoor
