/- Part 17 of the proof. -/
import Derived.Test.YtnocnbklhikmnaaGreatDoorW11
import Derived.Test.YtnocnbklhikmnaaGreatDoorW12
import Derived.Test.YtnocnbklhikmnaaGreatDoorW13
import Derived.Test.YtnocnbklhikmnaaGreatDoorW16
import Derived.Maps.RangeWalk
set_option linter.unusedVariables false
set_option maxRecDepth 1000000
set_option maxHeartbeats 16000000
namespace Go.Proofs.YtnocnbklhikmnaaGreatDoor
variable{b:Nat}{cs:Array Value}{g:Nat}{w w':World}
namespace M
def L(s:ByteArray):List UInt8:=s.data.toList
def turnB(lo hi:Nat)(b:UInt8):UInt8:=if lo<=b.toNat/\b.toNat<=hi then b^^^32 else b
def turned(lo hi:Nat)(s:ByteArray):ByteArray:=T ((L s).map (turnB lo hi))
def trim(s:ByteArray):ByteArray:=T (Lib.trimS (L s) [32,9,10,13])
def clampI(n lo hi:Int):Int:=if n<lo then lo else if hi<n then hi else n
def sub(s:ByteArray)(from_ count:Int):ByteArray:=
 let a:=(clampI from_ 0 s.size).toNat
 T (((L s).drop a).take (clampI count 0 (s.size-a:Nat)).toNat)
def find(s part:ByteArray):Int:=Lib.index (L s) (L part)+1
def replL(old by_:List UInt8):Nat->List UInt8->List UInt8->Option (List UInt8)
 |0,_,_=>none
 |k+1,acc,s=>
  if Lib.index s old<0 then(if 4096<(acc++s).length then none else some (acc++s))
  else
   let i:=(Lib.index s old).toNat
   let acc':=acc++s.take i++by_
   if 4096<acc'.length then none else replL old by_ k acc' (s.drop (i+old.length))
def replace(s old by_:ByteArray):Except Int ByteArray:=
 if isE old=true then(if 4096<s.size then .error 2 else .ok s)
 else match replL (L old) (L by_) (s.size+1) [] (L s) with
  |some l=> .ok (T l)
  |none=> .error 2
def padL(by_:List UInt8)(n:Nat):List UInt8:=(List.range n).map fun i=>by_.getD (i%by_.length) 0
def pad(s:ByteArray)(width:Int)(by_:ByteArray):Except Int ByteArray:=
 if width<=s.size\/isE by_=true then(if 4096<s.size then .error 2 else .ok s)
 else if 4096<width then .error 2
 else .ok (T (padL (L by_) (width-s.size).toNat++L s))
def vText(s:ByteArray):Val:=⟨1,s,0,false⟩
def vNum(n:Int):Val:=⟨2,ByteArray.empty,n,false⟩
def vTruth(b:Bool):Val:=⟨3,ByteArray.empty,0,b⟩
def vNone:Val:=⟨0,ByteArray.empty,0,false⟩
def short(s:ByteArray):Except Int Val:=if 4096<s.size then .error 2 else .ok (vText s)
def told:Except Int ByteArray->Except Int Val
 | .ok s=> .ok (vText s)
 | .error e=> .error e
def w64(n:Int):Int:=IntKind.i64.wrap n
def plusV(a b:Val):Except Int Val:=
 if a.kind=1 then short (a.text++b.text)
 else if 2147483647<w64 (a.num+b.num) then .error 11 else .ok (vNum (w64 (a.num+b.num)))
def order(a b:Val):Int:=if a.kind=1 then P.cmp (L a.text) (L b.text) else clampI (w64 (a.num-b.num)) (-1) 1
def eqV(a b:Val):Bool:=decide (a.kind=b.kind)&&eqT a.text b.text&&decide (a.num=b.num)&&(a.truth==b.truth)
def twoV(op:Int)(a b:Val):Except Int Val:=
 if op=15 then .ok (vTruth (eqV a b))
 else if op=16 then .ok (vTruth (!eqV a b))
 else if op=17 then .ok (vTruth (decide (order a b<0)))
 else if op=18 then .ok (vTruth (decide (order a b<=0)))
 else if op=19 then .ok (vTruth (decide (0<order a b)))
 else if op=20 then .ok (vTruth (decide (0<=order a b)))
 else plusV a b
structure Cx where
 tables:List Table
 now:ByteArray
abbrev Scope:=ByteArray->Option Val
structure St where
 m:Msg
 routes:List ByteArray
 stopped:Bool
 scopes:List Scope
def tableOf(ts:List Table)(name:ByteArray):Table:=(ts.find? fun t=>eqT t.name name).getD ⟨ByteArray.empty,[]⟩
def named(scopes:List Scope)(name:ByteArray):Val:=((scopes.reverse.findSome? fun s=>s name)).getD vNone
def argAt(a:List Val)(i:Nat):Val:=a.getD i vNone
def callV(c:Cx)(m:Msg)(name:ByteArray)(first:Node)(a:List Val):Except Int Val:=
 if eqT name nLen=true then .ok (vNum (argAt a 0).text.size)
 else if eqT name nUpper=true then .ok (vText (turned 97 122 (argAt a 0).text))
 else if eqT name nLower=true then .ok (vText (turned 65 90 (argAt a 0).text))
 else if eqT name nTrim=true then .ok (vText (trim (argAt a 0).text))
 else if eqT name nSub=true then .ok (vText (sub (argAt a 0).text (argAt a 1).num (argAt a 2).num))
 else if eqT name nFind=true then .ok (vNum (find (argAt a 0).text (argAt a 1).text))
 else if eqT name nReplace=true then told (replace (argAt a 0).text (argAt a 1).text (argAt a 2).text)
 else if eqT name nPad=true then told (pad (argAt a 0).text (argAt a 1).num (argAt a 2).text)
 else if eqT name nNumber=true then(if P.numOk (L (argAt a 0).text)=true then .ok (vNum (P.numV (L (argAt a 0).text))) else .error 11)
 else if eqT name nText=true then .ok (vText (T (P.digits (argAt a 0).num)))
 else if eqT name nExists=true then .ok (vTruth (has m first.path))
 else if eqT name nCount=true then .ok (vNum (count m first.text))
 else if eqT name nLookup=true then .ok (vText ((look (argAt a 1).text (tableOf c.tables first.text).entries).getD (argAt a 2).text))
 else if eqT name nHas=true then .ok (vTruth (look (argAt a 1).text (tableOf c.tables first.text).entries).isSome)
 else .ok (vText c.now)
def skips(name:ByteArray):Bool:=eqT name nExists||eqT name nCount||eqT name nLookup||eqT name nHas
def valsL(f:Tree->Except Int Val×Nat):List Tree->Except Int (List Val)×Nat
 |[]=>(.ok [],0)
 |t::l=>match f t with
  |(.error e,k)=>(.error e,k)
  |(.ok v,k)=>match valsL f l with
   |(.error e,j)=>(.error e,k+j)
   |(.ok vs,j)=>(.ok (v::vs),k+j)
def kid(ks:List Tree)(i:Nat):Tree:=ks.getD i (.mk ⟨0,0,ByteArray.empty,0,path0⟩ [])
def evalE(c:Cx)(m:Msg)(scopes:List Scope):Nat->Tree->Except Int Val×Nat
 |0,_=>(.error 1,0)
 |d+1,.mk x ks=>
  if x.op=7 then(.ok (vText x.text),1)
  else if x.op=8 then(.ok (vNum x.num),1)
  else if x.op=9\/x.op=10 then(.ok (vTruth (decide (x.op=9))),1)
  else if x.op=11 then(short (get m x.path),1)
  else if x.op=12 then(.ok (named scopes x.text),1)
  else if x.op=23 then
   match valsL (evalE c m scopes d) (if skips x.text=true then ks.tail else ks) with
   |(.error e,k)=>(.error e,k+1)
   |(.ok vs,k)=>(callV c m x.text (headX ks) (if skips x.text=true then vNone::vs else vs),k+1)
  else
   match evalE c m scopes d (kid ks 0) with
   |(.error e,k)=>(.error e,k+1)
   |(.ok a,k)=>
    if x.op=22 then(.ok (vTruth (!a.truth)),k+1)
    else if(x.op=13/\a.truth=true)\/(x.op=14/\a.truth=false) then(.ok a,k+1)
    else match evalE c m scopes d (kid ks 1) with
     |(.error e,j)=>(.error e,k+j+1)
     |(.ok b,j)=>(if x.op=13\/x.op=14 then .ok b else twoV x.op a b,k+j+1)
end M
section
open Go Go.RowKit Go.BigFrame
theorem textLookup_any(tn key other:ByteArray)(A:Option Addr)(c:Nat)(l:List (ByteArray×ByteArray))(S:Nat->Prop)(w:World)(hS:∀b,S b->b<w.heap.size)(hok:SOk A l.length c)(hl:LAt EPair w S A l.length l)(hk:key.size<=1048576):
 Calls Tryz.prog 168 #[.agg #[.string tn,.slice A l.length c],.string key,.string other] w fun e w'=>e= .returned (.string ((M.look key l).getD other))/\Below w.heap.size w w':=by
 have KF:=q_ (fun(W:World) (h:Below w.heap.size w W)=>found_any tn key A c l S W (fun b hb=>Nat.lt_of_lt_of_le (hS b hb) h.size) hok (hl.below h hS) hk);have B1:=q_ ((Below.refl _ w).alloc (n_) (.cells #[.string tn,.slice A l.length c] 200));clear hl hok hS;generalize l.length=m at*;cases hq:M.look key l with
 |none=>
  rw[hq] at KF;go_enter Tryz.func168,Tryz.ntmps168;go_wp2_with fail;refine(KF.o _ B1.o).mono ?_
  rintro e w2 ⟨rfl,hb⟩;have HB:=q_ (B1.o.trans (hb.mono B1.o.size));clear hb;go_wp2;go_ret;exact⟨rfl,HB.o⟩
 |some v=>
  rw[hq] at KF;go_enter Tryz.func168,Tryz.ntmps168;go_wp2_with fail;refine(KF.o _ B1.o).mono ?_
  rintro e w2 ⟨rfl,hb⟩;have HB:=q_ (B1.o.trans (hb.mono B1.o.size));clear hb;go_wp2;go_ret;exact⟨rfl,HB.o⟩
theorem textHas_any(tn key:ByteArray)(A:Option Addr)(c:Nat)(l:List (ByteArray×ByteArray))(S:Nat->Prop)(w:World)(hS:∀b,S b->b<w.heap.size)(hok:SOk A l.length c)(hl:LAt EPair w S A l.length l)(hk:key.size<=1048576):
 Calls Tryz.prog 171 #[.agg #[.string tn,.slice A l.length c],.string key] w fun e w'=>e= .returned (.bool (M.look key l).isSome)/\Below w.heap.size w w':=by
 have KF:=q_ (fun(W:World) (h:Below w.heap.size w W)=>found_any tn key A c l S W (fun b hb=>Nat.lt_of_lt_of_le (hS b hb) h.size) hok (hl.below h hS) hk);have B1:=q_ ((Below.refl _ w).alloc (n_) (.cells #[.string tn,.slice A l.length c] 200));clear hl hok hS;generalize l.length=m at*;go_enter Tryz.func171,Tryz.ntmps171;go_wp2_with fail;refine(KF.o _ B1.o).mono ?_
 rintro e w2 ⟨rfl,hb⟩;have HB:=q_ (B1.o.trans (hb.mono B1.o.size));clear hb;go_wp2;go_ret;exact⟨rfl,HB.o⟩
structure Only(b:Nat)(w w':World):Prop where
 os:w'.os=w.os
 tape:w'.tape=w.tape
 output:w'.output=w.output
 size:w'.heap.size=w.heap.size
 block:∀j,j≠b->w'.heap[j]? =w.heap[j]?
theorem Only.refl(b:Nat)(w:World):Only b w w:=⟨rfl,rfl,rfl,rfl,fun _ _=>rfl⟩
theorem Only.set(h:Only b w w')(i:Nat)(v:Value):Only b w (w'.setCell ⟨b,i,none⟩ v):=
 ⟨h.os,h.tape,h.output,by simpa using h.size,fun j hj=>(Below.heap_setCell w' ⟨b,i,none⟩ v j (by simpa using hj)).trans (h.block j hj)⟩
theorem Only.below{B:Nat}(h:Only b w w')(hb:B<=b):Below B w w':=
 ⟨h.os,h.tape,h.output,Nat.le_of_eq h.size.symm,fun j hj=>h.block j (by omega)⟩
theorem Only.blk{t:TypeId}(h:Only b w w')(hk:Blk w g t cs)(hg:g≠b):Blk w' g t cs:=(h.block g hg).trans hk
theorem trimPrefix_len(a b:List UInt8):(Lib.trimPrefix a b).length<=a.length:=by
 unfold Lib.trimPrefix;split<;>simp
namespace Ad
def isSeg(l:Bs):Bool:=M.isName ⟨l.toArray⟩
def numR(o e l:Bs)(bad:Bool):Bs×Bool:=
 if Lib.hasPrefix l o=true then
  (Lib.trimPrefix ((Lib.trimPrefix l o).drop (run digit (Lib.trimPrefix l o))) e,
   bad||(!P.numOk ((Lib.trimPrefix l o).take (run digit (Lib.trimPrefix l o)))||((decide (P.numV ((Lib.trimPrefix l o).take (run digit (Lib.trimPrefix l o)))<1)||decide (200<P.numV ((Lib.trimPrefix l o).take (run digit (Lib.trimPrefix l o)))))|| !Lib.hasPrefix ((Lib.trimPrefix l o).drop (run digit (Lib.trimPrefix l o))) e)))
 else(l,bad)
def numW(o l:Bs):Int:=if Lib.hasPrefix l o=true then P.numV ((Lib.trimPrefix l o).take (run digit (Lib.trimPrefix l o))) else 1
theorem numR_len(o e l:Bs)(bad:Bool):(numR o e l bad).1.length<=l.length:=by
 unfold numR;split
 ·refine Nat.le_trans (trimPrefix_len _ _) ?_
  rw[List.length_drop];have:=trimPrefix_len l o;omega
 ·exact n_
end Ad
theorem len_size(s:ByteArray):s.data.toList.length=s.size:=by simp
theorem mk_size(l:List UInt8):(⟨l.toArray⟩:ByteArray).size=l.length:=by
 show l.toArray.size=l.length;simp
def RdAt(w:World)(b:Nat)(x:Ad.Bs×Bool):Prop:=Blk w b 283 #[.string ⟨x.1.toArray⟩,.bool x.2]
theorem bytes_back(s:ByteArray):(⟨s.data.toList.toArray⟩:ByteArray)=s:=by cases s;simp
theorem pnum_any(b:Nat)(s o e:ByteArray)(bad:Bool)(w:World)(h:Blk w b 283 #[.string s,.bool bad])(hs:s.size<=1000000):
 Calls Tryz.prog 249 #[.pointer (some ⟨b,0,none⟩),.string o,.string e] w fun x w'=>x= .returned (.int .i64 (Ad.numW o.data.toList s.data.toList))/\RdAt w' b (Ad.numR o.data.toList e.data.toList s.data.toList bad)/\Only b w w':=by
 have c0:w.cell? ⟨b,0,none⟩=some (.string s):=h.cell 0;have f0:=h.frozen 0;have c1:w.cell? ⟨b,1,none⟩=some (.bool bad):=h.cell 1;have f1:=h.frozen 1;have K1:=Tryz.strings_CutPrefix s o w;have hr:=trimPrefix_len s.data.toList o.data.toList;obtain⟨V,hV⟩:∃V,Ad.numW o.data.toList s.data.toList=V:=⟨_,rfl⟩
 have hV2:=hV;unfold Ad.numW at hV2;rw[hV];clear hV;obtain⟨R,hR⟩:∃R,Ad.numR o.data.toList e.data.toList s.data.toList bad=R:=⟨_,rfl⟩
 have hR2:=hR;unfold Ad.numR at hR2;rw[hR];obtain⟨r,hr2⟩:∃r:ByteArray,r=⟨(Lib.trimPrefix s.data.toList o.data.toList).toArray⟩:=⟨_,rfl⟩
 have hr3:Lib.trimPrefix s.data.toList o.data.toList=r.data.toList:=by rw[hr2]
 have hrs:r.size<=s.size:=by rw[hr2,mk_size,<-len_size s];exact hr
 rw[<-hr2] at K1;rw[hr3] at hR2 hV2;generalize Lib.hasPrefix s.data.toList o.data.toList=is at*;have KK:=q_ K1;have HB:=q_ h;clear hr hr2 hr3 hR K1 h;cases is with
 |false=>
  rw[if_neg (by simp)] at hR2 hV2;have HR2:=q_ hR2;subst hV2;clear hR2;go_enter Tryz.func249,Tryz.ntmps249;go_wp2_with (refine KK.o.mono ?_;rintro e w' ⟨rfl,rfl⟩);go_ret;refine⟨rfl,?_,Only.refl _ _⟩;rw[<-HR2.o];unfold RdAt;rw[bytes_back];exact HB.o
 |true=>
  rw[if_pos rfl] at hR2 hV2;have HR2:=q_ hR2;have HV2:=q_ hV2;clear hR2 hV2;go_enter Tryz.func249,Tryz.ntmps249;go_wp2_with (refine KK.o.mono ?_;rintro e w' ⟨rfl,rfl⟩);go_loopw [9] (fun x wr=>∃k:Nat,x= .int .i64 k/\k<=r.size/\wr=w'/\Q_ (∀j,j<k->∃c,r.data.toList[j]? =some c/\Ad.digit c=true)) (fun x _=>r.size-(intOf x).toNat)
  case atStart=>exact⟨0,rfl,by omega,by trivial,q_ (fun j hj=>absurd hj (by omega))⟩
  case round=>
   obtain⟨k,rfl,hk,rfl,HALL⟩:=hrel;have KN:=number_any (r.extract 0 k) wr (by rw[ByteArray.size_extract];unfold maxLen;omega);have K2:=Tryz.strings_CutPrefix (r.extract k r.size) e wr
   have HEnd:=q_ (show Ad.run Ad.digit r.data.toList=k->Lib.trimPrefix (r.extract k r.size).data.toList e.data.toList=R.1/\(bad||(!P.numOk (r.extract 0 k).data.toList||((decide (P.numV (r.extract 0 k).data.toList<1)||decide (200<P.numV (r.extract 0 k).data.toList))|| !Lib.hasPrefix (r.extract k r.size).data.toList e.data.toList)))=R.2/\P.numV (r.extract 0 k).data.toList=V from fun hk=>by
    rw[ext_to,ext_end,<-HR2.o,<-HV2.o,hk];exact⟨rfl,rfl,rfl⟩)
   obtain⟨t,ht2⟩:∃t:ByteArray,t=⟨(Lib.trimPrefix (r.extract k r.size).data.toList e.data.toList).toArray⟩:=⟨_,rfl⟩
   have HEnd:=q_ (show Ad.run Ad.digit r.data.toList=k->t=⟨R.1.toArray⟩/\(bad||(!P.numOk (r.extract 0 k).data.toList||((decide (P.numV (r.extract 0 k).data.toList<1)||decide (200<P.numV (r.extract 0 k).data.toList))|| !Lib.hasPrefix (r.extract k r.size).data.toList e.data.toList)))=R.2/\P.numV (r.extract 0 k).data.toList=V from fun hk=>by
    obtain⟨h1,h2,h3⟩:=HEnd.o hk;exact⟨by rw[ht2,h1],h2,h3⟩)
   rw[<-ht2] at K2;unfold P.numE at KN;generalize Lib.hasPrefix (r.extract k r.size).data.toList e.data.toList=closed at*;generalize P.numV (r.extract 0 k).data.toList=v at*;generalize P.numOk (r.extract 0 k).data.toList=er at*;have KN:=q_ KN;have K2:=q_ K2;clear ht2;by_cases hlt:k<r.size
   ·have hi1:∀W:World,(Instr.index 9 (.string r) (.int .i64 (k:Int))).run Tryz.prog W= .ok (.int .u8 (r[k].toNat:Int)) W:=fun W=>idx_atu r k hlt rfl W
    have hc:=r[k].toNat_lt
    have hget:r.data.toList[k]? =some r[k]:=by
     have h2:k<r.data.toList.length:=by simpa using hlt
     rw[List.getElem?_eq_getElem h2];rfl
    have HG:=q_ hget;clear hget;by_cases hd:48<=r[k].toNat/\r[k].toNat<=57
    ·have HD:=q_ hd
     obtain⟨d1,d2⟩:=hd;go_wp2_with fail;go_roundw
     case rel=>
      refine⟨k+1,by go_num,by omega,by trivial,q_ (fun j hj=> ?_)⟩;rcases Nat.lt_or_ge j k with h|h
      ·exact HALL.o j h
      ·obtain rfl:j=k:=by omega
       exact⟨_,HG.o,by unfold Ad.digit;exact decide_eq_true HD.o⟩
     case measure=>simp[intOf];omega
    ·have HE:=q_ (HEnd.o (by
      have h1:=Ad.run_drop Ad.digit r.data.toList k HALL.o;rw[Ad.run_stop Ad.digit (l:=r.data.toList.drop k) (c:=r[k]) (by rw[List.getElem?_drop];exact HG.o) (by unfold Ad.digit;exact decide_eq_false hd)] at h1;exact h1))
     generalize r[k].toNat=c at*;clear HG HEnd;rcases(by omega:c<48\/(¬c<48/\57<c)) with d1|⟨d1,d2⟩
     all_goals
      clear hd;cases er<;>cases bad
      all_goals
       go_wp2_with (first|(go_at_call 159;refine KN.o.mono ?_;rintro e w' ⟨rfl,rfl⟩)|(go_at_call 181;refine K2.o.mono ?_;rintro e w' ⟨rfl,rfl⟩))
       all_goals
        go_ret;refine⟨congrArg (fun z=>Ending.returned (.int .i64 z)) HE.o.2.2,?_,((Only.refl _ _).set 1 _).set 0 _⟩;obtain⟨e1,e2,-⟩:=HE.o
        have hx:∀bb:Bool,bb=R.2->RdAt ((w'.setCell ⟨b,1,none⟩ (.bool bb)).setCell ⟨b,0,none⟩ (.string ⟨R.1.toArray⟩)) b R:=by
         rintro _ rfl;exact(HB.o.set_ 1 _).set_ 0 _
        rw[e1]
        first|exact hx _ e2|exact hx _ (by rw[<-e2,decide_eq_true (show v<1 by assumption)];rfl)|exact hx _ (by rw[<-e2,decide_eq_true (show 200<v by assumption),Bool.or_true];rfl)
   ·have HE:=q_ (HEnd.o (by
     have hk2:k=r.size:=by omega
     have h1:=Ad.run_drop Ad.digit r.data.toList k HALL.o;rw[List.drop_eq_nil_of_le (by rw[hk2];simp)] at h1;exact h1))
    clear HEnd;cases er<;>cases bad
    all_goals
     go_wp2_with (first|(go_at_call 159;refine KN.o.mono ?_;rintro e w' ⟨rfl,rfl⟩)|(go_at_call 181;refine K2.o.mono ?_;rintro e w' ⟨rfl,rfl⟩))
     all_goals
      go_ret;refine⟨congrArg (fun z=>Ending.returned (.int .i64 z)) HE.o.2.2,?_,((Only.refl _ _).set 1 _).set 0 _⟩;obtain⟨e1,e2,-⟩:=HE.o
      have hx:∀bb:Bool,bb=R.2->RdAt ((w'.setCell ⟨b,1,none⟩ (.bool bb)).setCell ⟨b,0,none⟩ (.string ⟨R.1.toArray⟩)) b R:=by
       rintro _ rfl;exact(HB.o.set_ 1 _).set_ 0 _
      rw[e1]
      first|exact hx _ e2|exact hx _ (by rw[<-e2,decide_eq_true (show v<1 by assumption)];rfl)|exact hx _ (by rw[<-e2,decide_eq_true (show 200<v by assumption),Bool.or_true];rfl)
theorem tokName_any(s:ByteArray)(w:World)(hs:s.size<=1000000):Calls Tryz.prog 12 #[.string s] w fun e w'=>e= .returned (.bool (Ad.isSeg s.data.toList))/\Below w.heap.size w w':=by
 unfold Ad.isSeg;rw[bytes_back];exact isName_any s w (by omega)
def valV(v:M.Val):Value:= .agg #[.int .i64 v.kind,.string v.text,.int .i64 v.num,.bool v.truth]
def panE(k:Int):Ending:= .panicked [{v:= .iface 30 (.int .i64 k),recovered:=false}]
def valE:Except Int M.Val->Ending
 | .ok v=> .returned (valV v)
 | .error k=>panE k
structure VOk(v:M.Val):Prop where
 text:v.text.size<=1048576
 lo:0<=v.num
 hi:v.num<=2147483647
theorem wpList_store_V{ops:Array Oper}{rest:List Oper}{op:Oper}{a:Act}{Q:Exit->Act->World->Prop}(hgd:op.guard=none)(x y:Operand)(ho:op.op= .store 37 x y)(b:Nat)(v:M.Val)(hx:a.eval x= .pointer (some ⟨b,0,none⟩))(hy:a.eval y=valV v)(hk:Blk w b 37 cs)(hs:cs.size=4)(h:∀w',Blk w' b 37 #[.int .i64 v.kind,.string v.text,.int .i64 v.num,.bool v.truth]->w.grownBy w' (some b)->wpList Tryz.prog ops Q rest (a.put op.dst undef) w'):wpList Tryz.prog ops Q (op::rest) a w:=
 wpList_store_blk (cs':=#[.int .i64 v.kind,.string v.text,.int .i64 v.num,.bool v.truth]) hgd 37 x y ho b hx hy hk hs.symm (by kernel_rfl) (by simp[Value.oneCell']) h
theorem val_res{fn:Func}{p:Tmp}(hf:fn.results=#[.cell p 37]){W:World}{tmps:Array Value}{v:M.Val}(hW:Blk W g 37 #[.int .i64 v.kind,.string v.text,.int .i64 v.num,.bool v.truth])(h2:tmps.getD p undef= .pointer (some ⟨g,0,none⟩)):
 (results fn tmps).run Tryz.prog W= .ok (valV v) W:=by
 rw[results_cell1 hf,h2];have hi:(Tryz.prog.info? 37).map (·.size)=some 4:=by kernel_rfl
 have h:=run_loadVar_row (P:=Tryz.prog) W g 37 37 #[.int .i64 v.kind,.string v.text,.int .i64 v.num,.bool v.truth] (0,0) _ hW Tryz.underlying37 rfl hi;simp only[asAddr,Sem.run_pure,Result.andThen_ok,h];rfl
theorem ofText_any(s:ByteArray)(w:World):Calls Tryz.prog 89 #[.string s] w fun e w'=>e= .returned (valV (M.vText s))/\Below w.heap.size w w':=by
 have K1:=q_ (Blk.new w 37 #[.int .i64 0,.string ⟨#[]⟩,.int .i64 0,.bool false]);have B1:=q_ ((Below.refl _ w).alloc (n_) (.cells #[.int .i64 0,.string ⟨#[]⟩,.int .i64 0,.bool false] 37));go_enter Tryz.func89,Tryz.ntmps89;go_wp2_with (refine wpList_store_V rfl (.tmp 2) (.tmp 4) rfl w.heap.size (M.vText s) (by rfl) (by rfl) (K1.o) rfl ?_;intro w3 k3 g3;have K3:=q_ k3;have B3:=q_ (below_gr B1.o g3 (by omega));clear k3 g3)
 (try simp only[Exit.inBlock,Exit.then]);exact bodyPost_ret (val_res rfl K3.o rfl) rfl ⟨rfl,B3.o⟩
theorem ofNum_any(s:Int)(w:World):Calls Tryz.prog 90 #[.int .i64 s] w fun e w'=>e= .returned (valV (M.vNum s))/\Below w.heap.size w w':=by
 have K1:=q_ (Blk.new w 37 #[.int .i64 0,.string ⟨#[]⟩,.int .i64 0,.bool false]);have B1:=q_ ((Below.refl _ w).alloc (n_) (.cells #[.int .i64 0,.string ⟨#[]⟩,.int .i64 0,.bool false] 37));go_enter Tryz.func90,Tryz.ntmps90;go_wp2_with (refine wpList_store_V rfl (.tmp 2) (.tmp 4) rfl w.heap.size (M.vNum s) (by rfl) (by rfl) (K1.o) rfl ?_;intro w3 k3 g3;have K3:=q_ k3;have B3:=q_ (below_gr B1.o g3 (by omega));clear k3 g3)
 (try simp only[Exit.inBlock,Exit.then]);exact bodyPost_ret (val_res rfl K3.o rfl) rfl ⟨rfl,B3.o⟩
theorem ofTruth_any(s:Bool)(w:World):Calls Tryz.prog 91 #[.bool s] w fun e w'=>e= .returned (valV (M.vTruth s))/\Below w.heap.size w w':=by
 have K1:=q_ (Blk.new w 37 #[.int .i64 0,.string ⟨#[]⟩,.int .i64 0,.bool false]);have B1:=q_ ((Below.refl _ w).alloc (n_) (.cells #[.int .i64 0,.string ⟨#[]⟩,.int .i64 0,.bool false] 37));go_enter Tryz.func91,Tryz.ntmps91;go_wp2_with (refine wpList_store_V rfl (.tmp 2) (.tmp 4) rfl w.heap.size (M.vTruth s) (by rfl) (by rfl) (K1.o) rfl ?_;intro w3 k3 g3;have K3:=q_ k3;have B3:=q_ (below_gr B1.o g3 (by omega));clear k3 g3)
 (try simp only[Exit.inBlock,Exit.then]);exact bodyPost_ret (val_res rfl K3.o rfl) rfl ⟨rfl,B3.o⟩
theorem ewant_yes(w:World):Calls Tryz.prog 160 #[.int .i64 0] w fun x w'=>x= .returned (.tuple #[])/\w'=w:=by
 go_enter Tryz.func160,Tryz.ntmps160;go_wp2;go_end0;exact⟨rfl,rfl⟩
theorem ewant_no(k:Int)(hk:k≠0)(w:World):Calls Tryz.prog 160 #[.int .i64 k] w fun x w'=>x=panE k/\w'=w:=by
 have q1:(k==0)=false:=by simp[hk]
 clear hk;go_enter Tryz.func160,Tryz.ntmps160;go_wp2;exact⟨rfl,rfl,rfl⟩
theorem short_any(s:ByteArray)(w:World):Calls Tryz.prog 92 #[.string s] w fun e w'=>e=valE (M.short s)/\Below w.heap.size w w':=by
 have K1:=q_ (Blk.new w 37 #[.int .i64 0,.string ⟨#[]⟩,.int .i64 0,.bool false]);have B1:=q_ ((Below.refl _ w).alloc (n_) (.cells #[.int .i64 0,.string ⟨#[]⟩,.int .i64 0,.bool false] 37));by_cases h:4096<s.size
 ·have q1:decide (4096<(s.size:Int))=true:=by simp;omega
  have HS:=q_ (show M.short s= .error 2 from if_pos h);clear h;go_enter Tryz.func92,Tryz.ntmps92;go_wp2;exact⟨rfl,by rw[HS.o];rfl,B1.o⟩
 ·have q1:decide (4096<(s.size:Int))=false:=by simp;omega
  have HS:=q_ (show M.short s= .ok (M.vText s) from if_neg h);clear h;go_enter Tryz.func92,Tryz.ntmps92;go_wp2_with fail;refine(ofText_any _ _).mono ?_
  rintro e w2 ⟨rfl,hb⟩;have B2:=q_ (B1.o.trans (hb.mono B1.o.size));have K2:=q_ (K1.o.below hb K1.o.lt);clear hb;go_wp2_with (refine wpList_store_V rfl (.tmp 2) (.tmp 8) rfl w.heap.size (M.vText s) (by rfl) (by rfl) (K2.o) rfl ?_;intro w3 k3 g3;have K3:=q_ k3;have B3:=q_ (below_gr B2.o g3 (by omega));clear k3 g3)
  (try simp only[Exit.inBlock,Exit.then]);exact bodyPost_ret (val_res rfl K3.o rfl) rfl ⟨by rw[HS.o];rfl,B3.o⟩
theorem told_any(r:Except Int ByteArray)(s:ByteArray)(k:Int)(hr:(r= .ok s/\k=0)\/(r= .error k/\k≠0))(w:World):Calls Tryz.prog 154 #[.string s,.int .i64 k] w fun e w'=>e=valE (M.told r)/\Below w.heap.size w w':=by
 have K1:=q_ (Blk.new w 37 #[.int .i64 0,.string ⟨#[]⟩,.int .i64 0,.bool false]);have B1:=q_ ((Below.refl _ w).alloc (n_) (.cells #[.int .i64 0,.string ⟨#[]⟩,.int .i64 0,.bool false] 37));rcases hr with⟨rfl,rfl⟩|⟨rfl,h⟩
 ·go_enter Tryz.func154,Tryz.ntmps154
  go_wp2_with fail;refine(ewant_yes _).mono ?_
  rintro e w2 ⟨rfl,h2⟩;have h2:=h2.symm;subst h2;go_wp2_with fail;refine(ofText_any _ _).mono ?_
  rintro e w2 ⟨rfl,hb⟩;have B2:=q_ (B1.o.trans (hb.mono B1.o.size));have K2:=q_ (K1.o.below hb K1.o.lt);clear hb;go_wp2_with (refine wpList_store_V rfl (.tmp 4) (.tmp 8) rfl w.heap.size (M.vText s) (by rfl) (by rfl) (K2.o) rfl ?_;intro w3 k3 g3;have K3:=q_ k3;have B3:=q_ (below_gr B2.o g3 (by omega));clear k3 g3)
  (try simp only[Exit.inBlock,Exit.then]);exact bodyPost_ret (val_res rfl K3.o rfl) rfl ⟨rfl,B3.o⟩
 ·have H:=q_ h
  clear h;go_enter Tryz.func154,Tryz.ntmps154;go_wp2_with fail;refine(ewant_no k H.o _).mono ?_
  rintro e w2 ⟨rfl,h2⟩;have h2:=h2.symm;subst h2;unfold panE;go_wp2;exact⟨rfl,rfl,B1.o⟩
theorem compare2_any(a b:ByteArray)(w:World):
 Calls Tryz.prog 233 #[.string a,.string b] w fun e w'=>e= .returned (.int .i64 (P.cmp a.data.toList b.data.toList))/\w=w':=by
 go_enter Tryz.func233,Tryz.ntmps233;go_wp2_with (go_at_call 255;refine(Tryz.strings_Compare _ _ _).mono ?_;rintro e w' ⟨rfl,hw⟩);subst hw;go_ret;exact⟨rfl,rfl⟩
theorem order_any(a b:M.Val)(ha:VOk a)(hb:VOk b)(w:World):Calls Tryz.prog 173 #[.agg #[.int .i64 a.kind,.string a.text,.int .i64 a.num,.bool a.truth],.agg #[.int .i64 b.kind,.string b.text,.int .i64 b.num,.bool b.truth]] w fun e w'=>e= .returned (.int .i64 (M.order a b))/\Below w.heap.size w w':=by
 obtain⟨a1,a2,a3⟩:=ha;obtain⟨b1,b2,b3⟩:=hb;have B1:=q_ (((Below.refl _ w).alloc (n_) (.cells #[.int .i64 a.kind,.string a.text,.int .i64 a.num,.bool a.truth] 37)).alloc (by simp) (.cells #[.int .i64 b.kind,.string b.text,.int .i64 b.num,.bool b.truth] 37));by_cases h:a.kind=1
 ·have q1:(a.kind==1)=true:=by simp[h]
  have HS:=q_ (show M.order a b=P.cmp a.text.data.toList b.text.data.toList from if_pos h);have KC:=q_ (fun W=>compare2_any a.text b.text W);clear h a1 a2 a3 b1 b2 b3;go_enter Tryz.func173,Tryz.ntmps173;go_wp2_with (go_at_call 233;refine(KC.o _).mono ?_;rintro e w' ⟨rfl,rfl⟩);go_ret;exact⟨by rw[HS.o];rfl,B1.o⟩
 ·have q1:(a.kind==1)=false:=by simp[h]
  have hw:IntKind.i64.wrap (a.num-b.num)=a.num-b.num:=IntWalk.i64_in _ ⟨by omega,by omega⟩
  have HS:=q_ (show M.order a b=min (max (a.num-b.num) (-1)) 1 by
   unfold M.order M.w64 M.clampI;rw[if_neg h,hw];split
   ·omega
   ·split<;>omega)
  clear h;go_enter Tryz.func173,Tryz.ntmps173;go_wp2;go_ret;exact⟨by rw[HS.o];rfl,B1.o⟩
theorem plus_any(a b:M.Val)(ha:VOk a)(hb:VOk b)(w:World):Calls Tryz.prog 174 #[.agg #[.int .i64 a.kind,.string a.text,.int .i64 a.num,.bool a.truth],.agg #[.int .i64 b.kind,.string b.text,.int .i64 b.num,.bool b.truth]] w fun e w'=>e=valE (M.plusV a b)/\Below w.heap.size w w':=by
 obtain⟨a1,a2,a3⟩:=ha;obtain⟨b1,b2,b3⟩:=hb;have hcat:(a.text++b.text).size=a.text.size+b.text.size:=ByteArray.size_append;have B1:=q_ ((((Below.refl _ w).alloc (n_) (.cells #[.int .i64 a.kind,.string a.text,.int .i64 a.num,.bool a.truth] 37)).alloc (by simp) (.cells #[.int .i64 b.kind,.string b.text,.int .i64 b.num,.bool b.truth] 37)).alloc (by simp;omega) (.cells #[.int .i64 0,.string ⟨#[]⟩,.int .i64 0,.bool false] 37));have K1:=q_ (Blk.new ((w.alloc (.cells #[.int .i64 a.kind,.string a.text,.int .i64 a.num,.bool a.truth] 37)).alloc (.cells #[.int .i64 b.kind,.string b.text,.int .i64 b.num,.bool b.truth] 37)) 37 #[.int .i64 0,.string ⟨#[]⟩,.int .i64 0,.bool false]);have s1:((w.alloc (.cells #[.int .i64 a.kind,.string a.text,.int .i64 a.num,.bool a.truth] 37)).alloc (.cells #[.int .i64 b.kind,.string b.text,.int .i64 b.num,.bool b.truth] 37)).heap.size=w.heap.size+2:=by simp
 rw[s1] at K1;by_cases h:a.kind=1
 ·have q1:(a.kind==1)=true:=by simp[h]
  have HS:=q_ (show M.plusV a b=M.short (a.text++b.text) from if_pos h);clear h a2 a3 b2 b3;go_enter Tryz.func174,Tryz.ntmps174;go_wp2_with fail;refine(short_any _ _).mono ?_
  rintro e w2 ⟨he,hb⟩;have B2:=q_ (B1.o.trans (hb.mono B1.o.size));have K2:=q_ (K1.o.below hb K1.o.lt);have ES:=q_ he;clear hb he;unfold M.short at ES;by_cases h4:4096<(a.text++b.text).size
  ·have HS2:=q_ (show M.plusV a b= .error 2 by rw[HS.o];exact if_pos h4)
   rw[if_pos h4] at ES;obtain rfl:=ES.o;unfold valE panE;go_wp2;exact⟨rfl,by rw[HS2.o];rfl,B2.o⟩
  ·have HS2:=q_ (show M.plusV a b= .ok (M.vText (a.text++b.text)) by rw[HS.o];exact if_neg h4)
   rw[if_neg h4] at ES;obtain rfl:=ES.o;unfold valE;go_wp2_with (refine wpList_store_V rfl (.tmp 4) (.tmp 13) rfl (w.heap.size+2) (M.vText (a.text++b.text)) (by rfl) (by rfl) (K2.o) rfl ?_;intro w3 k3 g3;have K3:=q_ k3;have B3:=q_ (below_gr B2.o g3 (by omega));clear k3 g3)
   (try simp only[Exit.inBlock,Exit.then]);exact bodyPost_ret (val_res rfl K3.o rfl) rfl ⟨by rw[HS2.o];rfl,B3.o⟩
 ·have q1:(a.kind==1)=false:=by simp[h]
  have hw:IntKind.i64.wrap (a.num+b.num)=a.num+b.num:=IntWalk.i64_in _ ⟨by omega,by omega⟩
  have HS:=q_ (show M.plusV a b=if 2147483647<a.num+b.num then .error 11 else .ok (M.vNum (a.num+b.num)) by
   unfold M.plusV M.w64;rw[if_neg h,hw])
  clear h;by_cases h4:2147483647<a.num+b.num
  ·have q2:decide (2147483647<a.num+b.num)=true:=decide_eq_true h4
   have HS2:=q_ (HS.o.trans (if_pos h4));clear h4;go_enter Tryz.func174,Tryz.ntmps174;go_wp2;exact⟨rfl,by rw[HS2.o];rfl,B1.o⟩
  ·have q2:decide (2147483647<a.num+b.num)=false:=decide_eq_false h4
   have HS2:=q_ (HS.o.trans (if_neg h4));clear h4;go_enter Tryz.func174,Tryz.ntmps174;go_wp2_with fail;refine(ofNum_any _ _).mono ?_
   rintro e w2 ⟨rfl,hb⟩;have B2:=q_ (B1.o.trans (hb.mono B1.o.size));have K2:=q_ (K1.o.below hb K1.o.lt);clear hb;go_wp2_with (refine wpList_store_V rfl (.tmp 4) (.tmp 26) rfl (w.heap.size+2) (M.vNum (a.num+b.num)) (by rfl) (by rfl) (K2.o) rfl ?_;intro w3 k3 g3;have K3:=q_ k3;have B3:=q_ (below_gr B2.o g3 (by omega));clear k3 g3)
   (try simp only[Exit.inBlock,Exit.then]);exact bodyPost_ret (val_res rfl K3.o rfl) rfl ⟨by rw[HS2.o];rfl,B3.o⟩
end
section
open Go Go.RowKit Go.BigFrame Go.Maps Go.WideMaps
structure PV where
 d:M.Delims
 v:Value
 tv:Value
 now:ByteArray
 rv:Value
 sv:Value
 stop:Bool
def PV.cells(p:PV)(F u:Nat):Array Value:=#[.int .u8 (p.d.f.toNat:Int),.int .u8 (p.d.c.toNat:Int),.int .u8 (p.d.r.toNat:Int),.int .u8 (p.d.e.toNat:Int),.int .u8 (p.d.s.toNat:Int),p.v,p.tv,.string p.now,.int .i64 (F:Nat),.int .i64 (u:Nat),p.rv,.bool p.stop,p.sv]
structure Turns(Mu:Nat->Prop)(w w':World):Prop where
 os:w'.os=w.os
 tape:w'.tape=w.tape
 output:w'.output=w.output
 size:w.heap.size<=w'.heap.size
 block:∀b,b<w.heap.size->¬Mu b->w'.heap[b]? =w.heap[b]?
section
variable {Mu Mu':Nat->Prop} {w w' w'':World}
theorem Turns.refl(Mu:Nat->Prop)(w:World):Turns Mu w w:=⟨rfl,rfl,rfl,n_,fun _ _ _=>rfl⟩
theorem Turns.trans(h:Turns Mu w w')(h2:Turns Mu' w' w'')(hm:∀b,b<w.heap.size->Mu' b->Mu b):Turns Mu w w'':=
 ⟨h2.os.trans h.os,h2.tape.trans h.tape,h2.output.trans h.output,Nat.le_trans h.size h2.size,fun b hb h1=>(h2.block b (Nat.lt_of_lt_of_le hb h.size) (fun h3=>h1 (hm b hb h3))).trans (h.block b hb h1)⟩
theorem Turns.of(h:Below w.heap.size w w'):Turns Mu w w':=⟨h.os,h.tape,h.output,h.size,fun b hb _=>h.block b hb⟩
theorem Turns.wide(h:Turns Mu w w')(hm:∀b,b<w.heap.size->Mu b->Mu' b):Turns Mu' w w':=⟨h.os,h.tape,h.output,h.size,fun b hb h1=>h.block b hb (fun h2=>h1 (hm b hb h2))⟩
theorem Turns.on(h:Turns Mu w w')(h2:Below w'.heap.size w' w''):Turns Mu w w'':=h.trans (Turns.of (Mu:=fun _=>False) h2) (fun _ _ h=>h.elim)
theorem Turns.grown(h:Turns Mu w w'){r:Nat}(hr:r<w.heap.size->Mu r)(hg:w'.grownBy w'' (some r)):Turns Mu w w'':=
 h.trans (Mu':=fun b=>b=r) ⟨hg.os,hg.tape,hg.output,hg.size,fun b hb h1=>hg.block b hb (fun e=>h1 (by injection e))⟩ (fun b hb e=>by subst e;exact hr hb)
theorem Turns.grownO(h:Turns Mu w w'){r:Option Nat}(hr:∀b,r=some b->b<w.heap.size->Mu b)(hg:w'.grownBy w'' r):Turns Mu w w'':=
 h.trans (Mu':=fun b=>r=some b) ⟨hg.os,hg.tape,hg.output,hg.size,fun b hb h1=>hg.block b hb (fun e=>h1 e.symm)⟩ (fun b hb e=>hr b e hb)
theorem Turns.blk{b:Nat}{T:TypeId}{cs:Array Value}(h:Turns Mu w w')(hk:Blk w b T cs)(h1:¬Mu b):Blk w' b T cs:=(h.block b hk.lt h1).trans hk
theorem Turns.cell{p:Addr}(h:Turns Mu w w')(hb:p.block<w.heap.size)(h1:¬Mu p.block):w'.cell? p=w.cell? p:=World.cell?_of_block (h.block _ hb h1)
theorem Turns.lat{α:Type}{E:Enc α}{S:Nat->Prop}{A:Option Addr}{m:Nat}{xs:List α}(h:Turns Mu w w')(hl:LAt E w S A m xs)(hS:∀b,S b->b<w.heap.size/\¬Mu b):LAt E w' S A m xs:=
 hl.keep (fun b hb=>hb) (fun p hp=>h.cell (hS _ hp).1 (hS _ hp).2)
theorem Turns.below{B:Nat}(h:Turns Mu w w')(hB:B<=w.heap.size)(hM:∀b,b<B->¬Mu b):Below B w w':=⟨h.os,h.tape,h.output,h.size,fun b hb=>h.block b (by omega) (hM b hb)⟩
end
abbrev OnlyG(g:Nat)(w w':World):Prop:=Turns (fun b=>b=g) w w'
theorem Blk.one_set{w:World}{g:Nat}{T:TypeId}{u:Value}(h:Blk w g T #[u])(v:Value):Blk (w.setCell ⟨g,0,none⟩ v) g T #[v]:=by
 have:=h.set_ 0 v;simpa using this
def ERef:Enc Nat:=Enc.flat (fun b=>[.map (some b)]) 1 Nat.one_pos (fun _=>True) (fun _=>rfl) (fun _ u hu=>by simp at hu;subst hu;rfl)
def NoB:Nat->Prop:=fun _=>False
abbrev MapV(w:World)(b:Nat)(s:M.Scope):Prop:=MapT Tryz.prog 9 Value.string w b (fun x=>(s x).map valV)
structure PlIn(w:World)(g:Nat)(Mu S:Nat->Prop)(c:M.Cx)(st:M.St)(p:PV)(bs:List Nat):Prop where
 d:p.d=st.m.d
 now:p.now=c.now
 stop:p.stop=st.stopped
 nowOk:c.now.size<=1048576
 msg:∃A n,p.v= .slice A st.m.segs.length n/\SOk A st.m.segs.length n/\LAt ESeg w S A st.m.segs.length st.m.segs
 tabs:∃A n,p.tv= .slice A c.tables.length n/\SOk A c.tables.length n/\LAt ETable w S A c.tables.length c.tables
 routes:OwnE EStr 9 w 0 NoB p.rv st.routes
 scopes:OwnE ERef 182 w 0 NoB p.sv bs
 maps:bs.length=st.scopes.length/\∀(i b:Nat) (s:M.Scope),bs[i]? =some b->st.scopes[i]? =some s->MapV w b s
 apart:bs.Nodup
 mine:∀b,b∈bs->Mu b/\b<w.heap.size/\b≠g/\p.sv.ownBlock≠some b/\p.rv.ownBlock≠some b
 own1:∀b,p.rv.ownBlock=some b->Mu b/\b≠g
 own2:∀b,p.sv.ownBlock=some b->Mu b/\b≠g/\p.rv.ownBlock≠some b
 gM:Mu g
 far:∀b,S b->b<w.heap.size/\¬Mu b
 mu:∀b,Mu b->b<w.heap.size
 vals:∀s:M.Scope,s∈st.scopes->∀(n:ByteArray) (v:M.Val),s n=some v->VOk v
 routesOk:st.routes.length<=4000
 scopesOk:st.scopes.length<=200
 tabsOk:∀t∈c.tables,∀e∈t.entries,e.2.size<=1048576
 mx:2<w.heap.size/\¬Mu 2/\∃m,w.cell? ⟨2,0,none⟩=some (.int .i64 m)
theorem PlIn.only{w w':World}{g:Nat}{Mu S:Nat->Prop}{c:M.Cx}{st:M.St}{p:PV}{bs:List Nat}(h:PlIn w g Mu S c st p bs)(ho:OnlyG g w w'):PlIn w' g Mu S c st p bs:=by
 have hS:∀b,S b->b<w.heap.size/\¬b=g:=fun b hb=>⟨(h.far b hb).1,fun e=>(h.far b hb).2 (e▸h.gM)⟩
 have far2:∀b,b<w.heap.size->b≠g->w'.heap[b]? =w.heap[b]? :=ho.block;obtain⟨A,n,e1,e2,e3⟩:=h.msg;obtain⟨A2,n2,f1,f2,f3⟩:=h.tabs;obtain⟨m1,m2,m,m3⟩:=h.mx
 exact⟨h.d,h.now,h.stop,h.nowOk,⟨A,n,e1,e2,ho.lat e3 hS⟩,⟨A2,n2,f1,f2,ho.lat f3 hS⟩,h.routes.stay ho.size (fun b hb hc=>far2 b hb (hc.elim (fun x=>x.elim) (fun x=>(h.own1 b x).2))),
  h.scopes.stay ho.size (fun b hb hc=>far2 b hb (hc.elim (fun x=>x.elim) (fun x=>(h.own2 b x).2.1))),⟨h.maps.1,fun i b s hb hs=>(h.maps.2 i b s hb hs).keep (far2 b (h.mine b (List.mem_of_getElem? hb)).2.1 (h.mine b (List.mem_of_getElem? hb)).2.2.1)⟩,h.apart,
  fun b hb=>⟨(h.mine b hb).1,Nat.lt_of_lt_of_le (h.mine b hb).2.1 ho.size,(h.mine b hb).2.2⟩,h.own1,h.own2,h.gM,fun b hb=>⟨Nat.lt_of_lt_of_le (h.far b hb).1 ho.size,(h.far b hb).2⟩,fun b hb=>Nat.lt_of_lt_of_le (h.mu b hb) ho.size,h.vals,h.routesOk,h.scopesOk,h.tabsOk,
  ⟨Nat.lt_of_lt_of_le m1 ho.size,m2,m,(ho.cell m1 (fun e=>m2 (by rw[show(2:Nat)=g from e];exact h.gM))).trans m3⟩⟩
theorem PlIn.below{w w':World}{g:Nat}{Mu S:Nat->Prop}{c:M.Cx}{st:M.St}{p:PV}{bs:List Nat}(h:PlIn w g Mu S c st p bs)(hb:Below w.heap.size w w'):PlIn w' g Mu S c st p bs:=h.only (Turns.of hb)
def M.cut{α:Type}(F u:Nat)(r:Except Int α×Nat):Except Int α×Nat:=if u+r.2<=F then(r.1,u+r.2) else(.error 83,F)
theorem step_any(w:World)(g:Nat)(p:PV)(F u:Nat)(hF:F<=2000)(hu:u<=F)(hk:Blk w g 77 #[.int .u8 (p.d.f.toNat:Int),.int .u8 (p.d.c.toNat:Int),.int .u8 (p.d.r.toNat:Int),.int .u8 (p.d.e.toNat:Int),.int .u8 (p.d.s.toNat:Int),p.v,p.tv,.string p.now,.int .i64 (F:Nat),.int .i64 (u:Nat),p.rv,.bool p.stop,p.sv]):
 Calls Tryz.prog 88 #[.pointer (some ⟨g,0,none⟩)] w fun e w'=>(u<F/\e= .returned (.tuple #[])/\OnlyG g w w'/\Blk w' g 77 #[.int .u8 (p.d.f.toNat:Int),.int .u8 (p.d.c.toNat:Int),.int .u8 (p.d.r.toNat:Int),.int .u8 (p.d.e.toNat:Int),.int .u8 (p.d.s.toNat:Int),p.v,p.tv,.string p.now,.int .i64 (F:Nat),.int .i64 ((u+1):Nat),p.rv,.bool p.stop,p.sv])\/(u=F/\e=panE 83/\Below w.heap.size w w'):=by
 have HB:=q_ hk;clear hk;by_cases h:u=F
 ·have q1:((u:Int)==(F:Int))=true:=by simp[h]
  have H:=q_ h;clear h;go_enter Tryz.func88,Tryz.ntmps88;go_wp2_with fail;refine wp_region_free 9 [] Stays (fun _=>none) (by kernel_rfl) (by kernel_rfl) Stays.refl (by simp) (Stays.draw _) Stays.trans (fun j φ v x y hB=>by cases hB) ?_
  iterate 9
   apply wpFree_pure rfl rfl
   ·intro vs wx hk K hK
    have c0:=fun i=>(HB.o.stays hk.1).cell i;go_simp;exact hK _ (Stays.refl _)
   intro KK hKK;go_simp;refine hKK _ ?_;clear hKK KK
  refine wpFree_nil ?_;intro vs w4 hs4 _;intro KK hKK;simp only[List.drop_succ_cons,List.drop_zero];go_wp2;exact⟨rfl,.inr ⟨H.o,rfl,hs4⟩⟩
 ·have q1:((u:Int)==(F:Int))=false:=by simp;omega
  have H:=q_ (show u<F by omega);clear h;go_enter Tryz.func88,Tryz.ntmps88;go_wp2_with fail;refine wp_region_free 9 [] Stays (fun _=>none) (by kernel_rfl) (by kernel_rfl) Stays.refl (by simp) (Stays.draw _) Stays.trans (fun j φ v x y hB=>by cases hB) ?_
  iterate 9
   apply wpFree_pure rfl rfl
   ·intro vs wx hk K hK
    have c0:=fun i=>(HB.o.stays hk.1).cell i;go_simp;exact hK _ (Stays.refl _)
   intro KK hKK;go_simp;refine hKK _ ?_;clear hKK KK
  refine wpFree_nil ?_;intro vs w4 hs4 _;intro KK hKK;simp only[List.drop_succ_cons,List.drop_zero];have B4:=q_ (HB.o.stays hs4);have z:=B4.o.cell;have zf:=B4.o.frozen;go_wp2;go_end0;exact .inl ⟨H.o,rfl,(Turns.of hs4).grown (fun _=>rfl) (grown_set w4 g 9 _),B4.o.set_ 9 (.int .i64 ((u:Int)+1))⟩
theorem enters_tab1:Enters Tryz.prog 134:=fun _ _=>rfl
theorem tab1_any(tn:ByteArray)(tv:Value)(b10:Nat)(lA ad:Addr)(n lc m c:Nat)(text:ByteArray)(w:World)(hb:Blk w b10 146 #[.slice (some lA) n lc])(hn:0<n)(hl:w.cell? lA=some (.slice (some ad) m c))(hm:0<m)(hx:w.cell? ⟨ad.block,ad.off+2,none⟩=some (.string text))(hlA:lA.block<w.heap.size)(had:ad.block<w.heap.size):
 Calls Tryz.prog 134 #[.agg #[.string tn,tv],.pointer (some ⟨b10,0,none⟩)] w fun e w'=>e= .returned (.bool (M.eqT tn text))/\Below w.heap.size w w':=by
 obtain⟨w1,hw1⟩:∃w1,w1=w.alloc (.cells #[.string tn,tv] 200):=⟨_,rfl⟩
 have X1:=q_ (show Blk w1 w.heap.size 200 #[.string tn,tv] from hw1▸Blk.new w _ _);have B1:=q_ (show Below w.heap.size w w1 from hw1▸(Below.refl _ w).alloc (n_) _);have Y1:=q_ (show Blk w1 b10 146 #[.slice (some lA) n lc] from hw1▸hb.alloc _);have L1:=q_ ((B1.o.cell (p:=lA) hlA).trans hl);have E1:=q_ ((B1.o.cell (p:=⟨ad.block,ad.off+2,none⟩) had).trans hx);have hs:=B1.o.size;have he:=eqT_text tn text;generalize M.eqT tn text=q at*;clear hb hl hx;go_enter Tryz.func134,Tryz.ntmps134;go_wp2_with fail;rw[<-hw1];clear hw1;refine wp_region_free 9 [] Stays (fun _=>none) (by kernel_rfl) (by kernel_rfl) Stays.refl (by simp) (Stays.draw _) Stays.trans ?_ ?_
 ·intro j φ u x y hB hp hxy
  cases hB
 iterate 9
  apply wpFree_pure rfl rfl
  ·intro vs wx hk K hK
   first
   |have c0:=fun i=>(X1.o.stays hk.1).cell i
    go_simp;exact hK _ (Stays.refl _)
   |have c0:=fun i=>(Y1.o.stays hk.1).cell i
    go_simp;exact hK _ (Stays.refl _)
   |have c0:=(hk.1.cell (p:=lA) (by omega)).trans L1.o
    go_simp;exact hK _ (Stays.refl _)
   |have c0:=(hk.1.cell (p:=⟨ad.block,ad.off+2,none⟩) (by show ad.block<_;omega)).trans E1.o
    go_simp;exact hK _ (Stays.refl _)
  intro KK hKK;go_simp;refine hKK _ ?_;clear hKK KK
 refine wpFree_nil ?_;intro vs w2 hs2 hv2;intro KK hKK;have B2:=q_ (bt' B1.o hs2);clear hs2 hv2;simp only[List.drop_succ_cons];go_wp2;go_ret;exact⟨rfl,B2.o⟩
end
end Go.Proofs.YtnocnbklhikmnaaGreatDoor
