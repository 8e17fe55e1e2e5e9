/- Part 15 of the proof. -/
import Derived.Test.YtpohlhkgbmdieaaGreatDoorW14
import Derived.StringKeys
import Derived.StillTailTactics
import Derived.Laws.BitsLemmas
import Derived.Deep.RegionLaw
set_option linter.unusedVariables false
set_option maxRecDepth 1000000
set_option maxHeartbeats 16000000
namespace Go.Proofs.YtpohlhkgbmdieaaGreatDoor
variable{S:Nat->Prop}{b:UInt8}{cs:List Value}{hi k lo:Nat}{p:ByteArray×ByteArray}{s:ByteArray}{w:World}
section
open Go Go.RowKit Go.BigFrame
def cq(f:UInt8->UInt8)(l:List UInt8)(k:Nat):List UInt8:=(l.take k).map f++l.drop k
theorem ku(f:UInt8->UInt8)(l:List UInt8)(k:Nat):(cq f l k).length=l.length:=by
 unfold cq;rw[List.length_append,List.length_map,<-List.length_append,List.take_append_drop]
theorem r9(f:UInt8->UInt8)(l:List UInt8)(k:Nat)(hk:k<l.length):(cq f l k)[k]? =l[k]? :=by
 unfold cq;rw[List.getElem?_append_right (by simp;omega)];simp only[List.length_map,List.length_take,List.getElem?_drop];congr 1;omega
theorem nW(f:UInt8->UInt8)(l:List UInt8)(k:Nat)(hk:k<l.length):cq f l (k+1)=(cq f l k).set k (f l[k]):=by
 unfold cq;apply List.ext_getElem?;intro i;rw[List.getElem?_set];rcases Nat.lt_trichotomy i k with h|h|h
 ·rw[if_neg (by omega),List.getElem?_append_left (by simp;omega),List.getElem?_append_left (by simp;omega)]
  simp[h,show i<k+1 by omega]
 ·subst h
  rw[if_pos rfl,if_pos (by simp;omega),List.getElem?_append_left (by simp;omega)];simp[hk]
 ·rw[if_neg (by omega),List.getElem?_append_right (by simp;omega),List.getElem?_append_right (by simp;omega)]
  simp only[List.length_map,List.length_take,List.getElem?_drop];congr 1;omega
theorem xw(f:UInt8->UInt8)(l:List UInt8)(k:Nat)(hk:k<l.length)(h:f l[k]=l[k]):cq f l (k+1)=cq f l k:=by
 rw[nW f l k hk,h];apply List.ext_getElem?;intro i;rw[List.getElem?_set];split
 ·next h1=>
  subst h1;rw[if_pos (by rw[ku];exact hk),r9 f l _ hk,e_ hk]
 ·rfl
theorem AD(f:UInt8->UInt8)(l:List UInt8):cq f l l.length=l.map f:=by simp[cq]
theorem OT(h1:lo<=b.toNat)(h2:b.toNat<=hi):M.lg lo hi b=b^^^32:=if_pos ⟨h1,h2⟩
theorem yv(h:¬(lo<=b.toNat/\b.toNat<=hi)):M.lg lo hi b=b:=if_neg h
theorem Xw(b:UInt8):bits BinOp.xor IntKind.u8 (b.toNat:Int) 32=(((b^^^32).toNat:Nat):Int):=by
 have:=u8_xor_nat b.toNat 32 b.toNat_lt (by decide);rw[show((32:Nat):Int)=(32:Int) from rfl] at this;rw[this];simp
theorem ve(s:ByteArray)(lo hi:UInt8)(w:World)(hs:s.size<=1048576):Calls Tryz.prog 267 #[.string s,.int .u8 (lo.toNat:Int),.int .u8 (hi.toNat:Int)] w fun e w'=>e= .returned (.string (M.turned lo.toNat hi.toNat s))/\Below w.heap.size w w':=by
 obtain⟨c,W2,hcv,hc,hblk,bS⟩:=OS w s;have hlen:s.data.toList.length=s.size:=Array.length_toList;have HT:=q_ (show M.turned lo.toNat hi.toNat s=⟨(s.data.toList.map (M.lg lo.toNat hi.toNat)).toArray⟩ from rfl);generalize s.data.toList=l at*;have K0:=q_ hblk;have B0:=q_ bS;have HL:=q_ hlen;clear hblk bS hlen;generalize hm:s.size=m at*;generalize hg:w.heap.size=g at*;go_enter Tryz.func267,Tryz.ntmps267;go_wp2_with fail;go_loopw [14] (fun x wr=>∃k:Nat,k<=m/\x= .int .i64 k/\Below g w wr/\cL wr g (cq (M.lg lo.toNat hi.toNat) l k)) (fun x _=>m-(intOf x).toNat)
 case atStart=>exact⟨0,by omega,rfl,B0.o,by simpa[cq] using K0.o⟩
 case round=>
  obtain⟨k,hk,rfl,hb,hbt⟩:=hrel;have HB:=q_ hb;have BT:=q_ hbt;clear hb hbt;by_cases hlt:k<m
  ·have q1:decide ((k:Int)<(m:Int))=true:=by simp;omega
   have nM:k<l.length:=by have:=HL.o;omega
   have hkd:k<(cq (M.lg lo.toNat hi.toNat) l k).length:=by rw[ku];exact nM
   have hc0:=BT.o.cell k hkd
   have he:(cq (M.lg lo.toNat hi.toNat) l k)[k]=l[k]:=by
    have:=r9 (M.lg lo.toNat hi.toNat) l k nM;rw[e_ hkd,e_ nM] at this;exact i_ this
   rw[he] at hc0;have Nt:=BT.o.frozen k hkd;have HS:=q_ (nW (M.lg lo.toNat hi.toNat) l k nM);have HE:=q_ (xw (M.lg lo.toNat hi.toNat) l k nM);have hx:=Xw l[k];have jbR:=q_ (BT.o.fK k hkd (l[k]^^^32));have jbS:=q_ (aV wr g k (.int .u8 ((l[k]^^^32).toNat:Int)));have HW:=q_ (show g<=w.heap.size from by omega);clear he hkd;by_cases h1:lo.toNat<=l[k].toNat
   ·have q2:decide ((lo.toNat:Int)<=(l[k].toNat:Int))=true:=by simpa using h1
    by_cases h2:l[k].toNat<=hi.toNat
    ·have q3:decide ((l[k].toNat:Int)<=(hi.toNat:Int))=true:=by simpa using h2
     have H2:=q_ (show cL (wr.setCell ⟨g,k,none⟩ (.int .u8 ((l[k]^^^32).toNat:Int))) g (cq (M.lg lo.toNat hi.toNat) l (k+1)) by
      rw[HS.o,OT h1 h2];exact jbR.o)
     have H3:=q_ (ai (hg▸HB.o) jbS.o (by omega));go_wp2;go_roundw
     case rel=>exact⟨k+1,by omega,by go_num,hg▸H3.o,H2.o⟩
     case measure=>simp[intOf];omega
    ·have q3:decide ((l[k].toNat:Int)<=(hi.toNat:Int))=false:=by simpa using h2
     have H2:=q_ (HE.o (yv (by omega)));go_wp2;go_roundw
     case rel=>exact⟨k+1,by omega,by go_num,HB.o,by rw[H2.o];exact BT.o⟩
     case measure=>simp[intOf];omega
   ·have q2:decide ((lo.toNat:Int)<=(l[k].toNat:Int))=false:=by simpa using h1
    have H2:=q_ (HE.o (yv (by omega)));go_wp2;go_roundw
    case rel=>exact⟨k+1,by omega,by go_num,HB.o,by rw[H2.o];exact BT.o⟩
    case measure=>simp[intOf];omega
  ·have q1:decide ((k:Int)<(m:Int))=false:=by simp;omega
   obtain rfl:k=m:=by omega
   have hst:=BT.o.string (c:=c);rw[ku,HL.o] at hst;have hta:=AD (M.lg lo.toNat hi.toNat) l;rw[HL.o] at hta;rw[hta,<-HT.o] at hst;go_wp2;go_ret;exact⟨rfl,HB.o⟩
theorem Lg(s:ByteArray)(w:World)(hs:s.size<=1048576):Calls Tryz.prog 212 #[.string s] w fun e w'=>e= .returned (.string (M.turned 97 122 s))/\Below w.heap.size w w':=by
 have K:=q_ (ve s 97 122 w hs);go_enter Tryz.func212,Tryz.ntmps212;go_wp2_with fail;refine K.o.mono ?_;rintro e w2 ⟨rfl,hb⟩;have HB:=q_ hb;clear hb;go_wp2;go_ret;exact⟨rfl,HB.o⟩
theorem Lh(s:ByteArray)(w:World)(hs:s.size<=1048576):Calls Tryz.prog 214 #[.string s] w fun e w'=>e= .returned (.string (M.turned 65 90 s))/\Below w.heap.size w w':=by
 have K:=q_ (ve s 65 90 w hs);go_enter Tryz.func214,Tryz.ntmps214;go_wp2_with fail;refine K.o.mono ?_;rintro e w2 ⟨rfl,hb⟩;have HB:=q_ hb;clear hb;go_wp2;go_ret;exact⟨rfl,HB.o⟩
end
section
open Go Go.RowKit Go.BigFrame Go.Maps Go.WideMaps
theorem gq:Keyed Tryz.prog 9:=Keyed.of_law (string_law Tryz.underlying9)
theorem str_inj:∀x y:ByteArray,Value.string x=Value.string y->x=y:=fun x y h=>by injection h
theorem gu(s:ByteArray)(h:s.size<=1048576):keyOf Tryz.prog 9 (.string s)=some (.string s.data.toList):=keyOf_string_mk Tryz.underlying9 (t_ h (by decide))
theorem Dj(w:World):(zeroValue 9).run Tryz.prog w= .ok (.string ⟨#[]⟩) w:=Tryz.zeroValue9 w
theorem iz{a b:ByteArray}:M.bJ a b=true<->a=b:=by
 unfold M.bJ;rw[beq_iff_eq];constructor
 ·intro h
  cases a;cases b;simp at h;rw[h]
 ·intro h
  rw[h]
def fA(l:List (ByteArray×ByteArray))(k:Nat)(key:ByteArray):Option ByteArray:=M.look key (l.take k)
theorem mg{β:Type}(key:ByteArray):∀(l:List (ByteArray×β)) (p:ByteArray×β),M.look key (l++[p])=match M.look key l with
  |some v=>some v
  |none=>if p.1=key then some p.2 else none
 |[],p=>by
  simp only[List.nil_append,M.look];by_cases h:p.1=key
  ·rw[if_pos h,if_pos (iz.2 h)]
  ·rw[if_neg h,if_neg (fun e=>h (iz.1 e))]
 |(k,v)::l,p=>by
  simp only[List.cons_append,M.look];split
  ·rfl
  ·exact mg key l p
theorem Dk{l:List (ByteArray×ByteArray)}(h:l[k]? =some p)(key:ByteArray):fA l (k+1) key=match fA l k key with
 |some v=>some v
 |none=>if p.1=key then some p.2 else none:=by
 unfold fA;rw[List.take_add_one,h,Option.toList_some,mg];cases M.look key (l.take k)<;>rfl
theorem ld.inv(h:ld.R w S cs p):cs=[.string p.1,.string p.2]/\p.1.size<=1048576/\p.2.size<=1048576:=by
 obtain⟨h1,h2⟩:=h;exact⟨h1,h2⟩
abbrev TG(w:World)(b:Nat)(f:ByteArray->Option ByteArray):Prop:=cY Tryz.prog 9 Value.string w b (fun x=>(f x).map Value.string)
theorem yw(tn key:ByteArray)(A:Option Addr)(c:Nat)(l:List (ByteArray×ByteArray))(S:Nat->Prop)(w:World)(hS:∀b,S b->b<w.heap.size)(aI:bX A l.length c)(hl:bn ld w S A l.length l)(hk:key.size<=1048576):
 Calls Tryz.prog 269 #[.agg #[.string tn,.slice A l.length c],.string key] w fun e w'=>e= .returned (.tuple #[.string ((M.look key l).getD ⟨#[]⟩),.bool (M.look key l).isSome])/\Below w.heap.size w w':=by
 have hm:=aI.le;have HL:=q_ hl;have HS:=q_ hS;have HT:=q_ (fun k p (h:l[k]? =some p)=>Dk h);have HA:=q_ (show fA l l.length key=M.look key l by unfold fA;rw[List.take_length]);obtain⟨w1,bu⟩:∃w1,w1=w.alloc (.cells #[.string tn,.slice A l.length c] 266):=⟨_,rfl⟩
 obtain⟨w2,hw2⟩:∃w2,w2=w1.alloc (.map #[] 0):=⟨_,rfl⟩
 have s1:w1.heap.size=w.heap.size+1:=by rw[bu];simp
 have s2:w2.heap.size=w.heap.size+2:=by rw[hw2];simp[s1]
 have X1:=q_ (show ar w2 w.heap.size 266 #[.string tn,.slice A l.length c] by rw[hw2,bu];exact(ar.new w _ _).alloc _);have M2:=q_ (show TG w2 (w.heap.size+1) (fA l 0) by rw[hw2,<-s1];exact cY.made w1 _ _ _);have B2:=q_ (show Below w.heap.size w w2 by rw[hw2,bu];exact((Below.refl _ w).alloc (n_) _).alloc (by simp) _);clear hl hS aI;generalize xk:l.length=m at*;have z1:=X1.o.cell;have Al:= @run_makeMap Tryz.prog;go_enter Tryz.func269,Tryz.ntmps269;go_wp2_with fail;rw[<-bu,<-hw2];clear bu hw2;go_wp2_with fail;go_loopw [17] (fun x wr=>∃k:Nat,k<=m/\x= .int .i64 k/\Below w.heap.size w wr/\w.heap.size+2<=wr.heap.size/\TG wr (w.heap.size+1) (fA l k)) (fun x _=>m-(intOf x).toNat)
 case atStart=>exact⟨0,by omega,rfl,B2.o,by omega,M2.o⟩
 case round=>
  obtain⟨k,kY,rfl,hb,hsz,hmap⟩:=hrel;have HB:=q_ hb;have HM:=q_ hmap;clear hb hmap;by_cases hlt:k<m
  ·have q1:decide ((k:Int)<(m:Int))=true:=by simp;omega
   obtain⟨a,p,u,v,rfl,yx,hx,hr,hc1,hc2⟩:=(HL.o.below HB.o HS.o).in2 rfl hlt;obtain⟨e5,Xx,hp2⟩:=ld.inv hr;injection e5 with e5 e6;injection e6 with e6 _;subst e5 e6;have hs:=HT.o k p hx;obtain⟨w3,hw3⟩:∃w3,w3=wr.alloc (.cells #[.string p.1,.string p.2] 315):=⟨_,rfl⟩
   have E3:=q_ (show ar w3 wr.heap.size 315 #[.string p.1,.string p.2] by rw[hw3];exact ar.new wr _ _);have B3:=q_ (show Below w.heap.size w w3 by rw[hw3];exact HB.o.alloc HB.o.size _);have s3:w3.heap.size=wr.heap.size+1:=by rw[hw3];simp
   have M3:=q_ (show TG w3 (w.heap.size+1) (fA l k) by rw[hw3];exact HM.o.below ((Below.refl wr.heap.size wr).alloc (n_) _) (by omega));have cj:=M3.o.look gq Tryz.underlying313 str_inj (gu p.1 Xx) (Dj w3) true;have z3:=E3.o.cell;clear hx hr;cases hq:fA l k p.1 with
   |some v0=>
    rw[hq] at cj;simp only[if_true,Option.map_some,Option.getD_some,Option.isSome_some] at cj
    have H4:=q_ (show∀y,fA l (k+1) y=fA l k y from fun y=>by
     rw[hs y];cases hy:fA l k y with
     |some v=>rfl
     |none=>exact if_neg (fun e=>by rw[<-e,hq] at hy;cases hy))
    clear hs;subst hw3;go_wp2_with fail;go_roundw
    case rel=>exact⟨k+1,by omega,by go_num,B3.o,by omega,M3.o.congr (fun y=>by rw[H4.o])⟩
    case measure=>simp[intOf];omega
   |none=>
    rw[hq] at cj;simp only[if_true,Option.map_none,Option.getD_none,Option.isSome_none] at cj;obtain⟨w4,jbT,VW,hg4⟩:=M3.o.store gq Tryz.underlying313 str_inj (gu p.1 Xx) (.string p.2)
    have H4:=q_ (show TG w4 (w.heap.size+1) (fA l (k+1)) from VW.congr (fun y=>by
     rw[hs y];by_cases hy:y=p.1
     ·subst hy
      rw[if_pos rfl,hq];simp
     ·rw[if_neg hy]
      cases fA l k y with
      |some v=>rfl
      |none=>
       rw[if_neg (fun e:p.1=y=>hy e.symm)]))
    have B4:=q_ (ai B3.o hg4 (by omega));have S4:=q_ hg4.size;clear hs VW hg4;subst hw3;go_wp2_with fail;go_roundw
    case rel=>exact⟨k+1,by omega,by go_num,B4.o,by have:=S4.o;omega,H4.o⟩
    case measure=>simp[intOf];omega
  ·have q1:decide ((k:Int)<(m:Int))=false:=by simp;omega
   obtain rfl:k=m:=by omega
   have cj:=HM.o.look gq Tryz.underlying313 str_inj (gu key hk) (Dj wr) true;rw[HA.o] at cj;go_wp2_with fail;go_ret2;exact⟨rfl,HB.o⟩
end
section
open Go Go.RowKit Go.BigFrame
theorem vg(tn key other:ByteArray)(A:Option Addr)(c:Nat)(l:List (ByteArray×ByteArray))(S:Nat->Prop)(w:World)(hS:∀b,S b->b<w.heap.size)(aI:bX A l.length c)(hl:bn ld w S A l.length l)(hk:key.size<=1048576):
 Calls Tryz.prog 233 #[.agg #[.string tn,.slice A l.length c],.string key,.string other] w fun e w'=>e= .returned (.string ((M.look key l).getD other))/\Below w.heap.size w w':=by
 have KF:=q_ (fun(W:World) (h:Below w.heap.size w W)=>yw tn key A c l S W (fun b hb=>l_ (hS b hb) h.size) aI (hl.below h hS) hk);have B1:=q_ ((Below.refl _ w).alloc (n_) (.cells #[.string tn,.slice A l.length c] 266));clear hl aI hS;generalize l.length=m at*;cases hq:M.look key l with
 |none=>
  rw[hq] at KF;go_enter Tryz.func233,Tryz.ntmps233;go_wp2_with fail;refine(KF.o _ B1.o).mono ?_
  rintro e w2 ⟨rfl,hb⟩;have HB:=q_ (B1.o.trans (hb.mono B1.o.size));clear hb;go_wp2;go_ret;exact⟨rfl,HB.o⟩
 |some v=>
  rw[hq] at KF;go_enter Tryz.func233,Tryz.ntmps233;go_wp2_with fail;refine(KF.o _ B1.o).mono ?_
  rintro e w2 ⟨rfl,hb⟩;have HB:=q_ (B1.o.trans (hb.mono B1.o.size));clear hb;go_wp2;go_ret;exact⟨rfl,HB.o⟩
theorem Dl(tn key:ByteArray)(A:Option Addr)(c:Nat)(l:List (ByteArray×ByteArray))(S:Nat->Prop)(w:World)(hS:∀b,S b->b<w.heap.size)(aI:bX A l.length c)(hl:bn ld w S A l.length l)(hk:key.size<=1048576):
 Calls Tryz.prog 236 #[.agg #[.string tn,.slice A l.length c],.string key] w fun e w'=>e= .returned (.bool (M.look key l).isSome)/\Below w.heap.size w w':=by
 have KF:=q_ (fun(W:World) (h:Below w.heap.size w W)=>yw tn key A c l S W (fun b hb=>l_ (hS b hb) h.size) aI (hl.below h hS) hk);have B1:=q_ ((Below.refl _ w).alloc (n_) (.cells #[.string tn,.slice A l.length c] 266));clear hl aI hS;generalize l.length=m at*;go_enter Tryz.func236,Tryz.ntmps236;go_wp2_with fail;refine(KF.o _ B1.o).mono ?_
 rintro e w2 ⟨rfl,hb⟩;have HB:=q_ (B1.o.trans (hb.mono B1.o.size));clear hb;go_wp2;go_ret;exact⟨rfl,HB.o⟩
end
section
open Go.RowKit
def nX(b:UInt8):Value:= .int .u8 (b.toNat:Int)
def dH(w:World)(B:Nat)(v:Value)(l:List UInt8):Prop:=w.ownsRow B 5 1 v l.length (l.map nX)
theorem Li(l:List UInt8):∀u∈l.map nX,u.oneCell'=true:=by
 intro u hu;obtain⟨_,_,rfl⟩:=List.mem_map.1 hu;rfl
section
variable {w w':World} {B B':Nat} {v:Value} {l:List UInt8}
theorem dH.nil(w:World)(B:Nat):dH w B (.slice none 0 0) []:=World.ownsRow_nil _ _ _ _
theorem dH.drew(h:dH w B v l):dH w.drew B v l:=h
theorem dH.drewN(h:dH w B v l)(n:Nat):dH (w.drewN n) B v l:=h
theorem dH.alloc(h:dH w B v l)(o:Obj):dH (w.alloc o) B v l:=World.ownsRow.alloc h o
theorem dH.below{C:Nat}(h:dH w B v l)(hb:Below C w w')(hC:w.heap.size<=C):dH w' B v l:=by
 obtain⟨h1,h2⟩:=h;refine⟨h1,?_⟩;rcases h2 with h2|⟨g,cap,cur,hv,hg,hh,r⟩
 ·exact .inl h2
 ·have hlt:g<w.heap.size:=by
   rcases Nat.lt_or_ge g w.heap.size with h|h
   ·exact h
   ·rw[Array.getElem?_eq_none h] at hh;cases hh
  exact .inr ⟨g,cap,cur,hv,hg,by rw[hb.block g (by omega)];exact hh,r⟩
theorem dH.made(w:World)(n:Nat)(hn:n<=maxLen):dH (w.alloc (.cells (bD (List.replicate n 0)) 5)) w.heap.size (.slice (some ⟨w.heap.size,0,none⟩) 0 n) []:=
 ⟨by simp,.inr ⟨w.heap.size,n,bD (List.replicate n 0),rfl,n_,heap_alloc_new w _,Nat.zero_le _,hn,by simp[dU],by simp⟩⟩
theorem dH.lit(w:World)(l:List UInt8)(hn:l.length<=maxLen):dH (w.alloc (.cells (bD l) 5)) w.heap.size (.slice (some ⟨w.heap.size,0,none⟩) l.length l.length) l:=
 ⟨by simp,.inr ⟨w.heap.size,l.length,bD l,rfl,n_,heap_alloc_new w _,n_,hn,by simp[dU],by
  simp only[bD,Nat.mul_one];rw[List.take_of_length_le (by simp)];rfl⟩⟩
theorem dH.string(h:dH w B v l):(convert 91 9 v).run Tryz.prog w= .ok (.string ⟨l.toArray⟩) w:=by
 rcases h.2 with⟨rfl,hn⟩|⟨g,cap,cur,rfl,hg,hh,r⟩
 ·have hl:l=[]:=List.eq_nil_of_length_eq_zero hn
  subst hl;exact run_convert_bytes_nil (P:=Tryz.prog) w 91 5 Tryz.underlying91 Tryz.underlying5 0 0 9 Tryz.underlying9
 ·have hc:=World.ownsRow.cells h (g:=g) rfl
  have h1:=run_convert_bytes_arg (P:=Tryz.prog) w 91 5 Tryz.underlying91 Tryz.underlying5 g 0 l.length cap (l.map fun b=>(b.toNat:Int)) (by simp) (fun i hi=>by
   have hx:=hc i (nX l[i]) (by simp[hi]);rw[Addr.add_lit] at hx;rw[hx];simp[nX,hi]) 9 Tryz.underlying9
  rw[h1];have he:((fun n:Int=>UInt8.ofNat n.toNat)∘fun b:UInt8=>(b.toNat:Int))=id:=by funext b;simp
  simp[strOfNums,he]
end
theorem nN{w:World}{ops:Array Oper}{rest:List Oper}{o:Oper}{a:Act}{Q:Exit->Act->World->Prop}(hgd:o.guard=none)(s x:Operand)(ho:o.op= .call {callee:= .builtin .append,args:=#[s,x],argTypes:=#[91,91]})(B:Nat)(v:Value)(l:List UInt8)(hs:a.eval s=v)(hown:dH w B v l)(ad:Addr)(m c:Nat)(news:List UInt8)(hx:a.eval x= .slice (some ad) m c)(hl:news.length=m)(hnews:∀j u,news[j]? =some u->w.cell? (ad.add j)=some (nX u))(hbytes:l.length+m<=140737488355328)(hbase:B<=w.heap.size)(h:∀v' w',dH w' B v' (l++news)->Below B w w'->wpList Tryz.prog ops Q rest (a.put o.dst v') w'):wpList Tryz.prog ops Q (o::rest) a w:=by
 obtain⟨i,hi,hz,hs1,hb1⟩:=info_parts OU
 refine wpList_append_own w hgd s x 91 ho B 5 i (.int .u8 0) 1 1 Tryz.underlying91 hi hz hs1 hb1 rfl (by omega) v l.length (l.map nX) hs hown ad m c (news.map nX) hx (by simp[hl])
  (fun j u hu=>by
    rw[List.getElem?_map] at hu;obtain⟨b,hb,rfl⟩:=Option.map_eq_some_iff.1 hu;exact hnews j b hb) (Li _) (by unfold maxLen;omega) (by omega) hbase ?_
 intro v' w' hown' hg _;refine h v' w' ?_ ((Below.refl _ _).grown hg hbase (fun k hk=>(World.ownsRow.lt hown k hk).1));unfold dH;rw[List.length_append,List.map_append,hl];exact hown'
theorem Xy(w:World)(t:TypeId)(l:List UInt8):∀j u,l[j]? =some u->(w.alloc (.cells (bD l) t)).cell? ((⟨w.heap.size,0,none⟩:Addr).add j)=some (nX u):=by
 intro j u hu;rw[Addr.add_lit,Nat.zero_add,(ar.new w t (bD l)).cell,jl,hu];rfl
end
section
open Go Go.RowKit Go.BigFrame
theorem eq_empty(s:ByteArray):(s.toList==[])=M.Ah s:=by
 rw[ByteArray.toList_eq];unfold M.Ah;cases s.data.toList<;>rfl
def Jm:Except Int ByteArray->Ending
 | .ok t=> .returned (.tuple #[.string t,.int .i64 0])
 | .error k=> .returned (.tuple #[.string ⟨#[]⟩,.int .i64 k])
theorem Lj(iy:List UInt8)(n:Nat):M.lz iy (n+1)=M.lz iy n++[iy.getD (n%iy.length) 0]:=by
 unfold M.lz;rw[List.range_succ,List.map_append];rfl
theorem TH(s bt:ByteArray)(n:Int)(w:World)(hs:s.size<=1048576)(hb:bt.size<=1048576)(hn:pH n):Calls Tryz.prog 225 #[.string s,.int .i64 n,.string bt] w fun e w'=>e=Jm (M.pad s n bt)/\Below w.heap.size w w':=by
 have hE:=eq_empty bt;by_cases h1:n<=(s.size:Int)\/M.Ah bt=true
 ·have HP:=q_ (show M.pad s n bt=if 4096<s.size then .error 2 else .ok s from if_pos h1)
  by_cases h2:4096<s.size
  ·have q2:decide (4096<(s.size:Int))=true:=by simp;omega
   rw[if_pos h2] at HP;by_cases h3:n<=(s.size:Int)
   ·have q1:decide (n<=(s.size:Int))=true:=by simpa using h3
    go_enter Tryz.func225,Tryz.ntmps225;go_wp2;go_ret2;exact⟨by rw[HP.o];rfl,Below.refl _ _⟩
   ·have q1:decide (n<=(s.size:Int))=false:=by simpa using h3
    rw[show M.Ah bt=true by rcases h1 with h|h;exact absurd h h3;exact h] at hE;go_enter Tryz.func225,Tryz.ntmps225;go_wp2;go_ret2;exact⟨by rw[HP.o];rfl,Below.refl _ _⟩
  ·have q2:decide (4096<(s.size:Int))=false:=by simp;omega
   rw[if_neg h2] at HP;by_cases h3:n<=(s.size:Int)
   ·have q1:decide (n<=(s.size:Int))=true:=by simpa using h3
    go_enter Tryz.func225,Tryz.ntmps225;go_wp2;go_ret2;exact⟨by rw[HP.o];rfl,Below.refl _ _⟩
   ·have q1:decide (n<=(s.size:Int))=false:=by simpa using h3
    rw[show M.Ah bt=true by rcases h1 with h|h;exact absurd h h3;exact h] at hE;go_enter Tryz.func225,Tryz.ntmps225;go_wp2;go_ret2;exact⟨by rw[HP.o];rfl,Below.refl _ _⟩
 ·have h3:¬n<=(s.size:Int):=fun h=>h1 (.inl h)
  have h4:M.Ah bt=false:=by cases h:M.Ah bt with|false=>rfl|true=>exact absurd (.inr h) h1
  have q1:decide (n<=(s.size:Int))=false:=by simpa using h3
  rw[h4] at hE;by_cases h5:4096<n
  ·have HP:=q_ (show M.pad s n bt= .error 2 by unfold M.pad;rw[if_neg h1,if_pos h5])
   have q2:decide (4096<n)=true:=by simpa using h5
   go_enter Tryz.func225,Tryz.ntmps225;go_wp2;go_ret2;exact⟨by rw[HP.o];rfl,Below.refl _ _⟩
  ·have q2:decide (4096<n)=false:=by simpa using h5
   obtain⟨m,hm⟩:∃m:Nat,n-(s.size:Int)=(m:Int):=⟨(n-s.size).toNat,by omega⟩
   have HP:=q_ (show M.pad s n bt= .ok (M.T (M.lz (M.L bt) m++M.L s)) by unfold M.pad;rw[if_neg h1,if_neg h5,hm];rfl);have Al:m<=4096:=by omega
   have hbz:0<bt.size:=by
    rcases Nat.eq_zero_or_pos bt.size with h|h
    ·have e:bt.data.toList=[]:=List.length_eq_zero_iff.1 (Array.length_toList.trans h)
     unfold M.Ah at h4;rw[e] at h4;cases h4
    ·exact h
   go_enter Tryz.func225,Tryz.ntmps225;go_wp2_with fail;go_loopw [8,28] (fun x y wr=>∃k:Nat,k<=m/\y= .int .i64 k/\dH wr w.heap.size x (M.lz (M.L bt) k)/\Below w.heap.size w wr) (fun _ y _=>m-(intOf y).toNat)
   case atStart=>exact⟨0,by omega,rfl,dH.nil _ _,Below.refl _ _⟩
   case round=>
    obtain⟨k,hk,rfl,hown,bS⟩:=hrel;have HO:=q_ hown;have HB:=q_ bS;clear hown bS;by_cases hlt:k<m
    ·have q3:decide ((k:Int)<(m:Int))=true:=by simp;omega
     have hz:((bt.size:Int)==0)=false:=beq_eq_false_iff_ne.2 (by omega);have hr:(k:Int).tmod (bt.size:Int)=((k%bt.size:Nat):Int):=rfl;have hrl:k%bt.size<bt.size:=Nat.mod_lt _ hbz
     have HS:=q_ (show M.lz (M.L bt) (k+1)=M.lz (M.L bt) k++[bt[k%bt.size]] by
      have h2:k%bt.size<(M.L bt).length:=Nat.lt_of_lt_of_eq hrl Array.length_toList.symm;rw[Lj,show(M.L bt).length=bt.size from Array.length_toList,List.getD_eq_getElem?_getD,e_ h2];rfl)
     have HP2:=q_ (show(M.lz (M.L bt) k).length=k by simp[M.lz]);generalize hj:k%bt.size=j at*;go_wp2_with (at_builtin;refine nN rfl (.tmp 31) (.tmp 38) rfl w.heap.size u8 (M.lz (M.L bt) k) rfl (HO.o.alloc _) ⟨wr.heap.size,0,none⟩ 1 1 [bt[j]] rfl rfl (Xy wr 5 [bt[j]]) (by rw[HP2.o];omega) (by have:=HB.o.size;simp;omega) ?_;intro o4 w4 bC hb4;have O4:=q_ bC;have B4:=q_ (HB.o.trans ((((Below.refl wr.heap.size wr).alloc (n_) (.cells #[.int .u8 (bt[j].toNat:Int)] 5)).mono HB.o.size).trans hb4));clear bC hb4);go_roundw
     case rel=>exact⟨k+1,by omega,by go_num,by rw[HS.o];exact O4.o,B4.o⟩
     case measure=>simp[intOf];omega
    ·have q3:decide ((k:Int)<(m:Int))=false:=by simp;omega
     obtain rfl:k=m:=by omega
     have hst:=HO.o.string
     have hno:¬9223372036854775807<(M.lz (M.L bt) k).length+s.size:=by
      rw[show(M.lz (M.L bt) k).length=k by simp[M.lz]];omega
     have jar:(⟨(M.lz (M.L bt) k).toArray⟩++s:ByteArray)=M.T (M.lz (M.L bt) k++M.L s):=by
      apply ByteArray.ext;rw[ByteArray.data_append];apply Array.toList_inj.1;simp[M.T,M.L]
     go_wp2_with fail;go_ret2;refine⟨?_,HB.o⟩;rw[HP.o];exact congrArg (fun t=>Ending.returned (.tuple #[.string t,.int .i64 0])) jar
theorem Dm(op:Int)(w:World):Calls Tryz.prog 180 #[.int .i64 op] w fun e w'=>e= .returned (.int .i64 (M.b7 op))/\Below w.heap.size w w':=by
 by_cases h0:op=0
 ·have q0:(op==0)=true:=by simp[h0]
  go_enter Tryz.func180,Tryz.ntmps180;go_wp2;go_ret;exact⟨by simp[M.b7,h0],Below.refl _ _⟩
 ·have q0:(op==0)=false:=by simp[h0]
  by_cases h1:1<=op
  ·have q1:decide (1<=op)=true:=by simp[h1]
   by_cases h2:op<=6
   ·have q2:decide (op<=6)=true:=by simp[h2]
    go_enter Tryz.func180,Tryz.ntmps180;go_wp2;go_ret;exact⟨by simp[M.b7,h0,h1,h2],Below.refl _ _⟩
   ·have q2:decide (op<=6)=false:=by simp;omega
    have q3:decide (7<=op)=true:=by simp;omega
    have h3:7<=op:=by omega
    by_cases h4:op<=23
    ·have q4:decide (op<=23)=true:=by simp[h4]
     go_enter Tryz.func180,Tryz.ntmps180;go_wp2;go_ret;exact⟨by simp[M.b7,h0,h1,h2,h3,h4],Below.refl _ _⟩
    ·have q4:decide (op<=23)=false:=by simp;omega
     go_enter Tryz.func180,Tryz.ntmps180;go_wp2;go_ret;exact⟨by rw[show M.b7 op=0 by unfold M.b7;rw[if_neg h0,if_neg (by omega),if_neg (by omega)]];rfl,Below.refl _ _⟩
  ·have q1:decide (1<=op)=false:=by simp;omega
   have q3:decide (7<=op)=false:=by simp;omega
   have h3:¬7<=op:=by omega
   go_enter Tryz.func180,Tryz.ntmps180;go_wp2;go_ret;exact⟨by rw[show M.b7 op=0 by unfold M.b7;rw[if_neg h0,if_neg (by omega),if_neg (by omega)]];rfl,Below.refl _ _⟩
theorem GQ(x:M.Node)(i:Nat)(w:World):Calls Tryz.prog 182 #[.agg #[.int .i64 x.op,.int .i64 x.n,.string x.text,.int .i64 x.num,.string x.path.aN,.int .i64 x.path.aP,.int .i64 x.path.aR,.int .i64 x.path.rep,.int .i64 x.path.comp,.int .i64 x.path.sub],.int .i64 i] w fun e w'=>e= .returned (.int .i64 (M.wanted x i))/\Below w.heap.size w w':=by
 have B1:=q_ ((Below.refl _ w).alloc (n_) (.cells #[.int .i64 x.op,.int .i64 x.n,.string x.text,.int .i64 x.num,.string x.path.aN,.int .i64 x.path.aP,.int .i64 x.path.aR,.int .i64 x.path.rep,.int .i64 x.path.comp,.int .i64 x.path.sub] 129));by_cases h0:x.op=0
 ·have q0:(x.op==0)=true:=by simp[h0]
  have HW:=q_ (show M.wanted x i=2 from if_pos h0);clear h0;go_enter Tryz.func182,Tryz.ntmps182;go_wp2;go_ret;exact⟨by rw[HW.o];rfl,B1.o⟩
 ·have q0:(x.op==0)=false:=by simp[h0]
  by_cases h1:x.op=1
  ·have q1:(x.op==1)=true:=by simp[h1]
   by_cases h2:0<i
   ·have q2:decide (0<(i:Int))=true:=by simp;omega
    have HW:=q_ (show M.wanted x i=1 by unfold M.wanted;rw[if_neg h0,if_pos ⟨h1,h2⟩]);clear h0 h1;go_enter Tryz.func182,Tryz.ntmps182;go_wp2;go_ret;exact⟨by rw[HW.o];rfl,B1.o⟩
   ·have q2:decide (0<(i:Int))=false:=by simp;omega
    have HW:=q_ (show M.wanted x i=3 by unfold M.wanted;rw[if_neg h0,if_neg (fun h=>h2 h.2)]);clear h0 h1;go_enter Tryz.func182,Tryz.ntmps182;go_wp2;go_ret;exact⟨by rw[HW.o];rfl,B1.o⟩
  ·have q1:(x.op==1)=false:=by simp[h1]
   have HW:=q_ (show M.wanted x i=3 by unfold M.wanted;rw[if_neg h0,if_neg (fun h=>h1 h.1)]);go_enter Tryz.func182,Tryz.ntmps182;go_wp2;go_ret;exact⟨by rw[HW.o];rfl,B1.o⟩
end
namespace M
mutual
def mh:Tree->Prop
 | .mk x ks=>x.n=(ks.length:Int)/\pz ks
def pz:List Tree->Prop
 |[]=>True
 |t::l=>mh t/\pz l
end
def jD(l:List Node):Int:=(l.map fun x=>x.n-1).sum
theorem Dn:jD []=0:=rfl
theorem np(x:Node)(l:List Node):jD (x::l)=x.n-1+jD l:=by simp[jD]
theorem jn(a b:List Node):jD (a++b)=jD a+jD b:=by simp[jD]
mutual
theorem pM:∀t:Tree,mh t->jD (flat t)= -1
 | .mk x ks,h=>by
   unfold mh at h;unfold flat;rw[np,yy ks h.2,h.1];omega
theorem yy:∀l:List Tree,pz l->jD (bB l)= -(l.length:Int)
 |[],_=>by unfold bB;rfl
 |t::l,h=>by
  unfold pz at h;unfold bB;rw[jn,pM t h.1,yy l h.2,List.length_cons];omega
end
mutual
theorem Dp:∀(t:Tree) (k:Nat),mh t->k<(flat t).length->0<=jD ((flat t).take k)
 | .mk x ks,k,h,hk=>by
   unfold mh at h;unfold flat at hk⊢;cases k with
   |zero=>simp[jD]
   |succ j=>
    rw[List.take_succ_cons,np,h.1];have:=yz ks j h.2 (by simpa using hk);omega
theorem yz:∀(l:List Tree) (k:Nat),pz l->k<(bB l).length->1-(l.length:Int)<=jD ((bB l).take k)
 |[],k,_,hk=>by unfold bB at hk;simp at hk
 |t::l,k,h,hk=>by
  unfold pz at h;unfold bB at hk⊢;rw[List.length_append] at hk;rw[List.take_append,jn,List.length_cons];by_cases h1:k<(flat t).length
  ·have h2:=Dp t k h.1 h1
   rw[show k-(flat t).length=0 by omega,List.take_zero,Dn];omega
  ·have h2:=yz l (k-(flat t).length) h.2 (by omega)
   rw[List.take_of_length_le (by omega),pM t h.1];omega
end
end M
section
open Go Go.RowKit Go.BigFrame
namespace M
mutual
theorem vh:∀t:Tree,mh t->∀x∈flat t,0<=x.n
 | .mk x ks,h,y,hy=>by
   unfold mh at h;unfold flat at hy;rcases List.mem_cons.1 hy with rfl|hy
   ·rw[h.1];omega
   ·exact yA ks h.2 y hy
theorem yA:∀l:List Tree,pz l->∀x∈bB l,0<=x.n
 |[],_,y,hy=>by unfold bB at hy;cases hy
 |t::l,h,y,hy=>by
  unfold pz at h;unfold bB at hy;rcases List.mem_append.1 hy with hy|hy
  ·exact vh t h.1 y hy
  ·exact yA l h.2 y hy
end
theorem Jn:∀(l:List Node),(∀x∈l,0<=x.n)-> -(l.length:Int)<=jD l
 |[],_=>by simp[jD]
 |x::l,h=>by
  have h1:=h x (by simp);have h2:=Jn l (fun y hy=>h y (by simp[hy]));rw[np,List.length_cons];omega
theorem TI(t:Tree)(h:mh t)(k:Nat):jD ((flat t).take k)<=((flat t).length:Int):=by
 have h1:=pM t h;rw[<-List.take_append_drop k (flat t),jn] at h1;have h2:=Jn ((flat t).drop k) (fun x hx=>vh t h x (List.mem_of_mem_drop hx));rw[List.length_drop] at h2;omega
theorem Lk{l:List Node}{k:Nat}{x:Node}(h:l[k]? =some x):jD (l.take (k+1))=jD (l.take k)+(x.n-1):=by
 rw[List.take_add_one,h,jn,Option.toList_some,np,Dn];omega
end M
theorem ENode.inv{x:M.Node}(h:ENode.R w S cs x):cs=x.cells/\x.jd:=h
theorem TJ(t:M.Tree)(rest:List M.Node)(ht:M.mh t)(A:Option Addr)(m c:Nat)(S:Nat->Prop)(w:World)(hS:∀b,S b->b<w.heap.size)(hm:m<=1048576)(hl:bn ENode w S A m (M.flat t++rest)):
 Calls Tryz.prog 118 #[.slice A m c] w fun e w'=>e= .returned (.int .i64 (M.flat t).length)/\Below w.heap.size w w':=by
 have xk:=hl.1;go_enter Tryz.func118,Tryz.ntmps118;go_wp2_with fail;have HL:=q_ hl;have HS:=q_ hS;have h0:=q_ (M.pM t ht);have h1:=q_ (fun k hk=>M.Dp t k ht hk);have h2:=q_ (fun k=>M.TI t ht k);have h3:=q_ (M.vh t ht);have Jo:(M.flat t).length<=m:=by rw[<-xk,List.length_append];omega
 clear hl hS ht xk;generalize hN:(M.flat t).length=N at*;go_loopw [3,4] (fun x y wr=>∃k:Nat,k<=N/\x= .int .i64 (1+M.jD ((M.flat t).take k))/\y= .int .i64 k/\Below w.heap.size w wr) (fun _ y _=>N-(intOf y).toNat)
 case atStart=>exact⟨0,by omega,by simp[M.jD],rfl,Below.refl _ _⟩
 case round=>
  obtain⟨k,hk,rfl,rfl,hb⟩:=hrel;have HB:=q_ hb;clear hb;by_cases hlt:k<N
  ·have g1:=h1.o k hlt
   have g2:=h2.o k;have g3:=h2.o (k+1);obtain⟨ad,x,cs,rfl,yx,hx,hr,hi⟩:=(HL.o.below HB.o HS.o).NY (k:=k) (by omega);rw[List.getElem?_append_left (by omega)] at hx;obtain⟨rfl,-⟩:=ENode.inv hr;have hs:=M.Lk hx;have hn:=h3.o x (m_ hx)
   have hc:wr.cell? ⟨(ad.add (k*10)).block,(ad.add (k*10)).off+1,none⟩=some (.int .i64 x.n):=by
    have:=hi 1 _ rfl
    rwa [show ENode.n=10 from rfl,iO 1 (by omega)] at this
   generalize M.jD ((M.flat t).take k)=q at*;have q1:decide (0<1+q)=true:=by simp;omega
   rw[hs] at g3;have b1:wrap64 (x.n-1)=x.n-1:=by unfold wrap64;omega
   have b2:wrap64 (1+q+(x.n-1))=1+q+(x.n-1):=by unfold wrap64;omega
   have Fv:k<m:=by omega
   go_wp2_with fail;go_roundw
   case rel=>exact⟨k+1,by omega,by rw[hs];simp[Int.add_assoc],by go_num,HB.o⟩
   case measure=>simp[intOf];omega
  ·obtain rfl:k=N:=by omega
   have hall:(M.flat t).take k=M.flat t:=List.take_of_length_le (by omega);rw[hall,h0.o];go_wp2;go_ret;exact⟨by rw[hN];rfl,HB.o⟩
end
section
open Go.RowKit

end
section
open Go.RowKit Go.BigFrame
theorem Ll(s:ByteArray)(k:Nat)(h:k<s.size):s.data.toList.take (k+1)=s.data.toList.take k++[s[k]]:=by
 rw[List.take_succ_eq_append_getElem (by simpa using h)];rfl
end
section
open Go.RowKit

theorem Jp(s:ByteArray)(h:0<s.size):s.data.toList.head? =some s[0]:=by
 have:0<s.data.toList.length:=by simpa using h
 rw[List.head?_eq_getElem?,e_ this];rfl
theorem OV(h:k<=9):10^k<=1000000000:=by
 have:=Nat.pow_le_pow_right (n:=10) (by omega) h;simpa using this
theorem TM(s:ByteArray)(k:Nat)(h:k<s.size)(hd:P.digit s[k]=false):P.ew s.data.toList=false:=by
 have hm:s[k]∈s.data.toList:=by
  have:s[k]=s.data.toList[k]'(by simpa using h):=rfl;rw[this];exact List.getElem_mem _
 have:s.data.toList.all P.digit=false:=by
  rw[Bool.eq_false_iff];intro h2;have:=List.all_eq_true.1 h2 _ hm;rw[hd] at this;cases this
 simp[P.ew,this]
theorem GU(s:ByteArray)(w:World)(hs:s.size<=maxLen):
 Calls Tryz.prog 196 #[.string s] w fun e w'=>e= .returned (.tuple #[.int .i64 (P.lL s.data.toList),.int .i64 (P.uI s.data.toList)])/\w=w':=by
 unfold maxLen at hs;have bad:∀hb:P.ew s.data.toList=false,P.lL s.data.toList=0/\P.uI s.data.toList=11:=fun hb=>⟨by simp[P.lL,hb],by simp[P.uI,hb]⟩
 by_cases h0:s.size=0
 ·obtain⟨HV,HE⟩:=bad (by simp[P.ew,h0])
  rw[HV,HE];have he:s.toList=[]:=by rw[ByteArray.toList_eq];exact List.eq_nil_of_length_eq_zero (by simpa using h0)
  have yg:s.toList.isEmpty=true:=by rw[he];rfl
  have he:=q_ he;clear HV HE bad;go_enter Tryz.func196,Tryz.ntmps196;go_wp2;go_ret2;exact⟨rfl,rfl⟩
 ·have yg:s.toList.isEmpty=false:=by
   rw[ByteArray.toList_eq,Bool.eq_false_iff,ne_eq,List.isEmpty_iff];intro h;apply h0;have:=congrArg List.length h;simpa using this
  by_cases h1:10<s.size
  ·obtain⟨HV,HE⟩:=bad (by simp[P.ew];intro _ h _;omega)
   rw[HV,HE];clear HV HE bad;go_enter Tryz.func196,Tryz.ntmps196;go_wp2;go_ret2;exact⟨rfl,rfl⟩
  ·have hb0:s[0].toNat<256:=s[0].toNat_lt
   by_cases h2:1<s.size/\s[0].toNat=48
   ·obtain⟨h2,h3⟩:=h2
    have hz:s[0]=48:=UInt8.toNat_inj.1 h3;obtain⟨HV,HE⟩:=bad (by simp[P.ew,Jp s (by omega),hz];intro _ _ h;omega);rw[HV,HE];have ht:((s[0].toNat:Int)==48)=true:=by rw[beq_iff_eq];omega
    clear HV HE bad hz h3;go_enter Tryz.func196,Tryz.ntmps196;go_wp2;go_ret2;exact⟨rfl,rfl⟩
   ·have fin:Calls Tryz.prog 196 #[.string s] w fun e w'=>e= .returned (.tuple #[.int .i64 (P.lL s.data.toList),.int .i64 (P.uI s.data.toList)])/\w=w':=by
     have Hok:=q_ (show P.ew s.data.toList=(s.data.toList.all P.digit&&decide (P.sR s.data.toList<=2147483647)) from by
      unfold P.ew;rw[decide_eq_true (p:=1<=s.data.toList.length/\s.data.toList.length<=10/\¬(1<s.data.toList.length/\s.data.toList.head? =some 48)),Bool.true_and];refine⟨by simp;omega,by simp;omega,?_⟩;rintro⟨ha,hb⟩;rw[Jp s (by omega)] at hb;exact h2 ⟨by simpa using ha,by rw[i_ hb];rfl⟩)
     have Bad:=q_ bad;clear bad
     have main:∀_:(s.size<=1\/(1<s.size/\((s[0].toNat:Int)==48)=false)),Calls Tryz.prog 196 #[.string s] w fun e w'=>e= .returned (.tuple #[.int .i64 (P.lL s.data.toList),.int .i64 (P.uI s.data.toList)])/\w=w':=by
      intro se;have H2:=q_ h2;rcases se with h5|⟨h5,h6⟩
      all_goals
       go_enter Tryz.func196,Tryz.ntmps196;go_wp2
       go_loop [4,25] (fun x i=>∃k:Nat,k<=s.size/\i= .int .i64 k/\∃m:Nat,m=P.sR (s.data.toList.take k)/\x= .int .i64 m/\∀b∈s.data.toList.take k,P.digit b=true) (fun _ i=>s.size-(intOf i).toNat)
       case atStart=>exact⟨0,by omega,rfl,0,by simp[P.sR],rfl,by simp⟩
       case round=>
        obtain⟨k,hk,rfl,m,hm,rfl,hall⟩:=hrel;have Xz:=P.Tm (s.data.toList.take k) hall;rw[<-hm,List.length_take,Nat.min_eq_left (by simpa using hk)] at Xz;have Hm:=q_ hm;have jas:=q_ hall;clear hm hall;by_cases hlt:k<s.size
        ·have hp:=OV (k:=k) (by omega)
         have xt:m<1000000000:=by omega
         have hb:s[k].toNat<256:=s[k].toNat_lt;have ZC:=Ll s k hlt;have Hn:=q_ (show P.sR (s.data.toList.take (k+1))=10*m+(s[k].toNat-48) from by rw[ZC,P.x7,<-Hm.o]);have Hsn:=q_ ZC;clear ZC hp Xz;by_cases hd:48<=s[k].toNat/\s[k].toNat<=57
         ·have Hd:=q_ (show P.digit s[k]=true from decide_eq_true hd)
          obtain⟨jf,nU⟩:=hd;go_wp2
          go_round
          case rel=>exact⟨k+1,by omega,by go_num,_,Hn.o.symm,by go_num,by
           rw[Hsn.o];intro b hb;rcases List.mem_append.1 hb with h|h
           ·exact jas.o b h
           ·rw[List.mem_singleton.1 h];exact Hd.o⟩
          case measure=>simp[intOf];omega
         ·obtain⟨hv,he9⟩:=Bad.o (TM s k hlt (decide_eq_false hd))
          have HV:=q_ hv;have HE:=q_ he9;clear hv he9;rcases(by omega:s[k].toNat<48\/(48<=s[k].toNat/\57<s[k].toNat)) with jf|⟨jf,nU⟩
          ·clear hd
           go_wp2;go_ret2;rw[HV.o,HE.o];exact⟨rfl,rfl⟩
          ·clear hd
           go_wp2;go_ret2;rw[HV.o,HE.o];exact⟨rfl,rfl⟩
        ·clear Xz
         have ht:s.data.toList.take k=s.data.toList:=List.take_of_length_le (by simp;omega);have Jq:=jas.o;have ZE:=Hm.o;rw[ht] at Jq ZE;have ha:s.data.toList.all P.digit=true:=List.all_eq_true.2 Jq;by_cases Td:m<=2147483647
         ·have aI:P.ew s.data.toList=true:=by rw[Hok.o,ha,<-ZE];simpa using Td
          have HV:=q_ (show P.lL s.data.toList=m from by simp[P.lL,aI,<-ZE]);have HE:=q_ (show P.uI s.data.toList=0 from by simp[P.uI,aI]);clear ht ha aI Jq ZE;go_wp2;go_ret2;rw[HV.o,HE.o];exact⟨rfl,rfl⟩
         ·have aI:P.ew s.data.toList=false:=by rw[Hok.o,ha,<-ZE];simpa using Td
          obtain⟨hv,he9⟩:=Bad.o aI;have HV:=q_ hv;have HE:=q_ he9;clear hv he9;clear ht ha aI Jq ZE;go_wp2;go_ret2;rw[HV.o,HE.o];exact⟨rfl,rfl⟩
     exact main (by
      rcases Nat.lt_or_ge 1 s.size with h|h
      ·exact .inr ⟨h,beq_eq_false_iff_ne.2 (by intro e;exact h2 ⟨h,by omega⟩)⟩
      ·exact .inl h)
    exact fin
end
section
open Go Go.RowKit Go.BigFrame
namespace Ad
abbrev Bs:=List UInt8
def letter(c:UInt8):Bool:=decide (97<=c.toNat/\c.toNat<=122\/65<=c.toNat/\c.toNat<=90)
def digit(c:UInt8):Bool:=decide (48<=c.toNat/\c.toNat<=57)
def eB(c:UInt8):Bool:=letter c||digit c||decide (c.toNat=95)
def run(p:UInt8->Bool)(l:Bs):Nat:=(l.takeWhile p).length
theorem OX(p:UInt8->Bool)(l:Bs):run p l<=l.length:=by
 unfold run;exact(List.takeWhile_prefix p).length_le
theorem Dq(p:UInt8->Bool)(l:Bs)(k:Nat)(h:∀j,j<k->∃c,l[j]? =some c/\p c=true):run p l=k+run p (l.drop k):=by
 induction k generalizing l with
 |zero=>simp
 |succ k ih=>
  cases l with
  |nil=>
   obtain⟨c,hc,_⟩:=h 0 (by omega);cases hc
  |cons a l=>
   obtain⟨c,hc,hp⟩:=h 0 (by omega);simp at hc;subst hc
   have h2:=ih l (fun j hj=>by
    have:=h (j+1) (by omega);simpa using this)
   unfold run at h2⊢;rw[List.takeWhile_cons_of_pos hp];simp[h2];omega
theorem run_stop(p:UInt8->Bool){l:Bs}{c:UInt8}(h:l[0]? =some c)(hp:p c=false):run p l=0:=by
 cases l with
 |nil=>rfl
 |cons a l=>
  simp at h;subst h;unfold run;rw[List.takeWhile_cons_of_neg (by simp[hp])];rfl
end Ad
theorem vk(c:UInt8)(w:World):
 Calls Tryz.prog 192 #[.int .u8 (c.toNat:Int)] w fun e w'=>e= .returned (.bool (Ad.letter c))/\w'=w:=by
 have hb:=c.toNat_lt;have hn:Ad.letter c=decide (97<=c.toNat/\c.toNat<=122\/65<=c.toNat/\c.toNat<=90):=rfl;generalize Ad.letter c=r at*;generalize c.toNat=n at*;rcases(by omega:n<65\/(65<=n/\n<=90)\/(90<n/\n<97)\/(97<=n/\n<=122)\/122<n) with h|⟨h,h'⟩|⟨h,h'⟩|⟨h,h'⟩|h<;>
 (have HR:=q_ hn
  clear hn;go_enter Tryz.func192,Tryz.ntmps192;go_wp2;go_ret;refine⟨?_,rfl⟩;have h2:=HR.o
  first|rw[decide_eq_true (by omega)] at h2|rw[decide_eq_false (by omega)] at h2
  rw[h2]
  first|rfl|(refine congrArg (fun b=>Ending.returned (Value.bool b)) ?_;simp;omega))
theorem Dr(c:UInt8)(w:World):
 Calls Tryz.prog 195 #[.int .u8 (c.toNat:Int)] w fun e w'=>e= .returned (.bool (Ad.digit c))/\w'=w:=by
 have hb:=c.toNat_lt;have hn:Ad.digit c=decide (48<=c.toNat/\c.toNat<=57):=rfl;generalize Ad.digit c=r at*;generalize c.toNat=n at*;rcases(by omega:n<48\/(48<=n/\n<=57)\/57<n) with h|⟨h,h'⟩|h<;>
 (have HR:=q_ hn
  clear hn;go_enter Tryz.func195,Tryz.ntmps195;go_wp2;go_ret;refine⟨?_,rfl⟩;have h2:=HR.o
  first|rw[decide_eq_true (by omega)] at h2|rw[decide_eq_false (by omega)] at h2
  rw[h2]
  first|rfl|(refine congrArg (fun b=>Ending.returned (Value.bool b)) ?_;simp;omega))
theorem GX(c:UInt8)(w:World):
 Calls Tryz.prog 194 #[.int .u8 (c.toNat:Int)] w fun e w'=>e= .returned (.bool (Ad.eB c))/\w'=w:=by
 have hb:=c.toNat_lt;have K1:=q_ (vk c w);have K2:=q_ (Dr c w);have hn:Ad.eB c=(Ad.letter c||Ad.digit c||decide (c.toNat=95)):=rfl;generalize Ad.letter c=r1 at*;generalize Ad.digit c=r2 at*;generalize Ad.eB c=r at*;generalize c.toNat=n at*;have HR:=q_ hn;clear hn;cases r1 with
 |true=>
  go_enter Tryz.func194,Tryz.ntmps194;go_wp2_with (refine K1.o.mono ?_;rintro e w' ⟨rfl,rfl⟩);go_ret;exact⟨by rw[HR.o];simp,rfl⟩
 |false=>
  cases r2 with
  |true=>
   go_enter Tryz.func194,Tryz.ntmps194;go_wp2_with (first|(go_at_call 192;refine K1.o.mono ?_;rintro e w' ⟨rfl,rfl⟩)|(go_at_call 195;refine K2.o.mono ?_;rintro e w' ⟨rfl,rfl⟩));go_ret;exact⟨by rw[HR.o];simp,rfl⟩
  |false=>
   obtain⟨q,hq⟩:∃q,((n:Int)==95)=q:=⟨_,rfl⟩
   have HQ:=q_ (show decide (n=95)=q by rw[<-hq];cases hd:((n:Int)==95) with
    |true=>rw[beq_iff_eq] at hd;exact decide_eq_true (by omega)
    |false=>rw[beq_eq_false_iff_ne] at hd;exact decide_eq_false (by omega))
   go_enter Tryz.func194,Tryz.ntmps194;go_wp2_with (first|(go_at_call 192;refine K1.o.mono ?_;rintro e w' ⟨rfl,rfl⟩)|(go_at_call 195;refine K2.o.mono ?_;rintro e w' ⟨rfl,rfl⟩));go_ret;refine⟨?_,rfl⟩;rw[HR.o,HQ.o];rfl
theorem Ds(s:ByteArray)(w:World)(hs:s.size<=1048576):
 Calls Tryz.prog 193 #[.string s,.func (.func 194) #[] #[]] w fun e w'=>e= .returned (.int .i64 (Ad.run Ad.eB s.data.toList:Nat))/\w'=w:=by
 have hle:Ad.run Ad.eB s.data.toList<=s.size:=by have:=Ad.OX Ad.eB s.data.toList;simpa using this
 have HLE:=q_ hle;clear hle;go_enter Tryz.func193,Tryz.ntmps193;go_wp2_with fail;go_loopw [5] (fun v wr=>∃k:Nat,v= .int .i64 k/\k<=s.size/\wr=w/\∀j,j<k->∃c,s.data.toList[j]? =some c/\Ad.eB c=true) (fun v _=>s.size-(intOf v).toNat)
 case atStart=>exact⟨0,rfl,by omega,rfl,fun j hj=>absurd hj (by omega)⟩
 case round=>
  obtain⟨k,rfl,hk,rfl,hall⟩:=hrel;have nO:=q_ hall;clear hall;by_cases hlt:k<s.size
  ·have gZ:s.data.toList[k]? =some s[k]:=by
    have h2:k<s.data.toList.length:=by simpa using hlt
    rw[e_ h2];rfl
   have HG:=q_ gZ;clear gZ;have K:=q_ (GX s[k] wr);obtain⟨b,hb⟩:∃b,Ad.eB s[k]=b:=⟨_,rfl⟩
   have HB:=q_ hb;rw[hb] at K;clear hb;cases b with
   |true=>
    go_wp2_with fail;refine K.o.mono ?_;rintro e w2 ⟨rfl,rfl⟩;go_wp2_with fail;go_roundw
    case rel=>
     refine⟨k+1,by go_num,by omega,by trivial,fun j hj=> ?_⟩;rcases Nat.lt_or_ge j k with h|h
     ·exact nO.o j h
     ·obtain rfl:j=k:=by omega
      exact⟨_,HG.o,HB.o⟩
    case measure=>simp[intOf];omega
   |false=>
    go_wp2_with fail;refine K.o.mono ?_;rintro e w2 ⟨rfl,rfl⟩;go_wp2_with fail;go_ret;refine⟨?_,rfl⟩;have h1:=Ad.Dq Ad.eB s.data.toList k nO.o;rw[Ad.run_stop Ad.eB (l:=s.data.toList.drop k) (c:=s[k]) (by rw[List.getElem?_drop];exact HG.o) HB.o] at h1;rw[h1];rfl
  ·obtain rfl:k=s.size:=by omega
   go_wp2_with fail;go_ret;refine⟨?_,rfl⟩;have h1:=Ad.Dq Ad.eB s.data.toList s.size nO.o;rw[List.drop_eq_nil_of_le (by simp)] at h1;rw[h1];rfl
namespace Ad
def isName(s:Bs):Bool:=match s with|[]=>false|c::_=>decide (s.length<=32)&&letter c&&decide (run eB s=s.length)
end Ad
theorem TN(s:ByteArray)(k:Nat)(hk:k<s.size){i:Int}(hi:i=(k:Int))(W:World):(Instr.index 9 (.string s) (.int .i64 i)).run Tryz.prog W= .ok (.int .u8 (s[k].toNat:Int)) W:=by
 subst hi;simp[go_sem,hk]
theorem TP(h:s.size≠0):s.toList.isEmpty=false:=by
 rw[ByteArray.toList_eq];cases hs:s.data.toList with
 |nil=>
  have:=congrArg List.length hs;simp at this;rw[this] at h;exact absurd rfl h
 |cons=>rfl
theorem GY(h:s.size=0):s=⟨#[]⟩:=by
 have:s.data=#[]:=Array.eq_empty_of_size_eq_zero h;rw[<-this]
theorem AE(s:ByteArray)(w:World)(hs:s.size<=1048576):
 Calls Tryz.prog 264 #[.string s] w fun e w'=>e= .returned (.bool (Ad.isName s.data.toList))/\w'=w:=by
 by_cases h0:s.size=0
 ·obtain rfl:=GY h0
  go_enter Tryz.func264,Tryz.ntmps264;go_wp2;go_ret;exact⟨rfl,rfl⟩
 ·obtain⟨r,hd⟩:∃r,s.data.toList=s[0]::r:=⟨s.data.toList.drop 1,by
   have:=List.drop_eq_getElem_cons (l:=s.data.toList) (i:=0) (by simpa using Nat.pos_of_ne_zero h0);rw[List.drop_zero] at this;exact this⟩
  have hne:=TP h0;have hlen:s.data.toList.length=s.size:=by simp
  have HN:=q_ (show Ad.isName s.data.toList=(decide (s.size<=32)&&Ad.letter s[0]&&decide (Ad.run Ad.eB s.data.toList=s.size)) by
   have e:∀l:Ad.Bs,l=s[0]::r->Ad.isName l=(decide (l.length<=32)&&Ad.letter s[0]&&decide (Ad.run Ad.eB l=l.length)):=fun l h=>by
    subst h;rfl
   rw[e _ hd,hlen])
  have Aw:∀W:World,(Instr.index 9 (.string s) (.int .i64 0)).run Tryz.prog W= .ok (.int .u8 (s[0].toNat:Int)) W:=fun W=>TN s 0 (by omega) rfl W;have K1:=q_ (fun W=>vk s[0] W);have K2:=q_ (fun W=>Ds s W hs)
  have hle:Ad.run Ad.eB s.data.toList<=s.size:=by
   have:=Ad.OX Ad.eB s.data.toList
   rwa [hlen] at this
  have hc:=s[0].toNat_lt;generalize Ad.run Ad.eB s.data.toList=n at*;rw[HN.o];clear hd HN;generalize s[0]=c at*;by_cases h32:s.size<=32
  ·cases hl:Ad.letter c with
   |false=>
    rw[hl] at K1;go_enter Tryz.func264,Tryz.ntmps264;go_wp2_with fail;refine(K1.o _).mono ?_
    rintro e w1 ⟨rfl,rfl⟩;go_wp2_with fail;go_ret;exact⟨by simp,rfl⟩
   |true=>
    rw[hl] at K1;go_enter Tryz.func264,Tryz.ntmps264;go_wp2_with fail;refine(K1.o _).mono ?_
    rintro e w1 ⟨rfl,rfl⟩;go_wp2_with fail;refine(K2.o _).mono ?_
    rintro e w1 ⟨rfl,rfl⟩;go_wp2_with fail;go_ret;refine⟨?_,rfl⟩;by_cases hn:n=s.size
    ·subst hn;simp[h32]
    ·simp[h32,hn]
     omega
  ·go_enter Tryz.func264,Tryz.ntmps264
   go_wp2_with fail;go_ret;exact⟨by simp[],rfl⟩
theorem yB(c:UInt8):Ad.letter c=M.tU c:=by
 unfold Ad.letter M.tU;rw[Bool.eq_iff_iff];simp
theorem OY(c:UInt8):Ad.eB c=M.tV c:=by
 unfold Ad.eB M.tV;rw[yB];rfl
theorem Jr(p:UInt8->Bool):∀l:List UInt8,decide (Ad.run p l=l.length)=l.all p
 |[]=>rfl
 |c::l=>by
  have ih:=Jr p l;unfold Ad.run at ih⊢;rw[List.takeWhile_cons,List.all_cons];cases hp:p c
  ·simp
  ·rw[if_pos rfl,List.length_cons,List.length_cons,Bool.true_and,<-ih,Bool.eq_iff_iff]
   simp
theorem GZ(s:ByteArray):Ad.isName s.data.toList=M.ng s:=by
 unfold M.ng M.Ah;cases s.data.toList with
 |nil=>rfl
 |cons c l=>
  show(decide ((c::l).length<=32)&&Ad.letter c&&decide (Ad.run Ad.eB (c::l)=(c::l).length))=_
  rw[Jr,yB,show Ad.eB=M.tV from funext OY];simp
theorem Dt(s:ByteArray)(w:World)(hs:s.size<=1048576):Calls Tryz.prog 264 #[.string s] w fun e w'=>e= .returned (.bool (M.ng s))/\Below w.heap.size w w':=
 (AE s w hs).mono fun e w' ⟨he,hw⟩=>⟨by rw[<-GZ];exact he,hw▸Below.refl _ _⟩
def cQ:Array Value:=(M.reserved.map Value.string).toArray
theorem AG(w:World):Calls Tryz.prog 265 #[] w fun e w'=>e= .returned (.slice (some ⟨w.heap.size,0,none⟩) 12 12)/\w'=w.alloc (.cells cQ 9):=by
 go_enter Tryz.func265,Tryz.ntmps265;go_wp2;go_ret;exact⟨rfl,rfl⟩
theorem xx(w:World):bn bN (w.alloc (.cells cQ 9)) (fun b=>b=w.heap.size) (some ⟨w.heap.size,0,none⟩) 12 M.reserved:=by
 refine⟨rfl,fun _=>⟨_,rfl,rfl,fun k x hx=>⟨[.string x],bN.mk ?_,fun i u hu=> ?_⟩⟩⟩
 ·have hm:=m_ hx
  have hall:∀y∈M.reserved,y.size<=1048576:=by decide
  exact hall x hm
 ·cases i with
  |succ i=>simp at hu
  |zero=>
   simp at hu;subst hu;have:=(ar.new w 9 cQ).cell k;rw[show cQ[k]? =some (.string x) by unfold cQ;simp[hx]] at this;simpa[Addr.add_lit,bN,aU.flat] using this
theorem Du(key:ByteArray)(A:Option Addr)(m c:Nat)(xs:List ByteArray)(S:Nat->Prop)(w:World)(hS:∀b,S b->b<w.heap.size)(hm:m<=1048576)(hl:bn bN w S A m xs):
 Calls Tryz.prog 175 #[.slice A m c,.string key] w fun e w'=>e= .returned (.int .i64 (bT m (fun k=>match xs[k]?with|some x=>M.bJ key x|none=>false)))/\Below w.heap.size w w':=by
 obtain⟨q,hq⟩:∃q:Nat->Bool,q=fun k=>match xs[k]?with|some x=>M.bJ key x|none=>false:=⟨_,rfl⟩
 rw[<-hq];have HQ:=q_ (show∀k x,xs[k]? =some x->q k=M.bJ key x from fun k x h=>by rw[hq];simp only[h]);have HL:=q_ hl;have HS:=q_ hS;clear hl hS hq;go_enter Tryz.func175,Tryz.ntmps175;go_wp2_with fail;go_loopw [8] (fun x wr=>∃k:Nat,k<=m/\x= .int .i64 k/\Below w.heap.size w wr/\∀j,j<k->q j=false) (fun x _=>m-(intOf x).toNat)
 case atStart=>exact⟨0,by omega,rfl,Below.refl _ _,fun j hj=>absurd hj (Nat.not_lt_zero j)⟩
 case round=>
  obtain⟨k,hk,rfl,hb,hno⟩:=hrel;have HB:=q_ hb;have NO:=q_ hno;clear hb hno;by_cases hlt:k<m
  ·have q1:decide ((k:Int)<(m:Int))=true:=by simp;omega
   obtain⟨a,x,v,rfl,yx,hx,hr,hc⟩:=(HL.o.below HB.o HS.o).in1 rfl hlt;obtain⟨rfl,-⟩:=bN.inv hr;have hqk:=HQ.o k x hx
   have he:(key.toList==x.toList)=M.bJ key x:=by
    exact fy key x
   rw[<-hqk] at he;clear hx hr hqk;cases ht:q k
   ·rw[ht] at he
    have N2:=q_ (show∀j,j<k+1->q j=false from fun j hj=>by
     rcases Nat.lt_or_ge j k with h1|h1
     ·exact NO.o j h1
     ·have:j=k:=by omega
      subst this;exact ht)
    clear ht;go_wp2;go_roundw
    case rel=>exact⟨k+1,by omega,by go_num,HB.o,N2.o⟩
    case measure=>simp[intOf];omega
   ·rw[ht] at he
    have HT:=q_ (cP hlt ht NO.o);clear ht;go_wp2;go_ret;rw[HT.o];exact⟨rfl,HB.o⟩
  ·have q1:decide ((k:Int)<(m:Int))=false:=by simp;omega
   have HT:=q_ (dg (m:=m) (q:=q) (fun j hj=>NO.o j (by omega)));go_wp2;go_ret;rw[HT.o];exact⟨rfl,HB.o⟩
theorem mi(key:ByteArray)(A:Option Addr)(m c:Nat)(xs:List ByteArray)(S:Nat->Prop)(w:World)(hS:∀b,S b->b<w.heap.size)(hm:m<=1048576)(hl:bn bN w S A m xs):
 Calls Tryz.prog 129 #[.slice A m c,.string key] w fun e w'=>e= .returned (.bool (M.fo xs key))/\Below w.heap.size w w':=by
 have K:=Du key A m c xs S w hS hm hl
 have hn:(decide ((0:Int)<=bT m (fun k=>match xs[k]?with|some x=>M.bJ key x|none=>false)))=M.fo xs key:=by
  rw[ez];exact yc hl.1 (fun k x h=>by simp only[h])
 generalize bT m (fun k=>match xs[k]?with|some x=>M.bJ key x|none=>false)=r at*;have KK:=q_ K;have HN:=q_ hn;clear K hl hS hn;go_enter Tryz.func129,Tryz.ntmps129;go_wp2_with fail;refine KK.o.mono ?_;rintro e w2 ⟨rfl,hb⟩;have HB:=q_ hb;clear hb;go_wp2;go_ret;exact⟨by rw[<-HN.o];rfl,HB.o⟩
theorem AH(s:ByteArray)(w:World)(hs:s.size<=1048576):Calls Tryz.prog 204 #[.string s] w fun e w'=>e= .returned (.bool (M.lO s))/\Below w.heap.size w w':=by
 have KN:=q_ (Dt s w hs);have KR:=q_ (fun(W:World)=>AG W);have KC:=q_ (fun(W:World)=>mi s (some ⟨W.heap.size,0,none⟩) 12 12 M.reserved (fun b=>b=W.heap.size) (W.alloc (.cells cQ 9)) (fun b hb=>by rw[hb];simp) (by decide) (xx W));have HR:=q_ (show M.lO s=(M.ng s&& !M.fo M.reserved s) from rfl);generalize M.fo M.reserved s=b at*;cases hn:M.ng s with
 |false=>
  rw[hn] at KN HR;go_enter Tryz.func204,Tryz.ntmps204;go_wp2_with fail;refine KN.o.mono ?_;rintro e w2 ⟨rfl,hb⟩;have HB:=q_ hb;clear hb;go_wp2;go_ret;exact⟨by rw[HR.o];rfl,HB.o⟩
 |true=>
  rw[hn] at KN HR;go_enter Tryz.func204,Tryz.ntmps204;go_wp2_with fail;refine KN.o.mono ?_;rintro e w2 ⟨rfl,hb⟩;have HB:=q_ hb;clear hb;go_wp2_with fail;refine(KR.o w2).mono ?_
  rintro e w3 ⟨rfl,rfl⟩;go_wp2_with fail;refine(KC.o w2).mono ?_
  rintro e w4 ⟨rfl,hb4⟩;have B4:=q_ ((HB.o.alloc HB.o.size (.cells cQ 9)).trans (hb4.mono (t_ HB.o.size (by simp))));clear hb4;go_wp2;go_ret;exact⟨by rw[HR.o];rfl,B4.o⟩
end
namespace M
def ir(x:Node):Node:=⟨x.op,x.n,if jN x.op=true then x.text else ByteArray.empty,if lR x.op=true then x.num else 0,if jO x.op=true then x.path else lN⟩
theorem Js(s:ByteArray):Ah s=true<->s=ByteArray.empty:=by
 unfold Ah;constructor
 ·intro h
  have h2:s.data.toList=[]:=List.isEmpty_iff.1 h;have h3:s.data=#[]:=Array.toList_inj.1 h2;cases s;exact congrArg ByteArray.mk h3
 ·rintro rfl
  rfl
theorem Dv(p:Path):Ai p=true<->p=lN:=by
 unfold Ai lN;rw[Bool.and_eq_true,Js,decide_eq_true_iff];cases p;simp
theorem G0(x:Node):qT x=true<->x=ir x:=by
 obtain⟨op,n,text,num,path⟩:=x;unfold qT ir;simp only[Bool.and_eq_true,Bool.or_eq_true,Js,Dv,decide_eq_true_iff,Node.mk.injEq,true_and];refine⟨fun h=>⟨?_,?_,?_⟩,fun h=>⟨⟨?_,?_⟩,?_⟩⟩
 ·split
  ·rfl
  ·next hk=>exact h.1.1.resolve_left hk
 ·split
  ·rfl
  ·next hk=>exact h.1.2.resolve_left hk
 ·split
  ·rfl
  ·next hk=>exact h.2.resolve_left hk
 ·by_cases hk:jN op=true
  ·exact .inl hk
  ·exact .inr (by have:=h.1;rwa [if_neg hk] at this)
 ·by_cases hk:lR op=true
  ·exact .inl hk
  ·exact .inr (by have:=h.2.1;rwa [if_neg hk] at this)
 ·by_cases hk:jO op=true
  ·exact .inl hk
  ·exact .inr (by have:=h.2.2;rwa [if_neg hk] at this)
end M
end Go.Proofs.YtpohlhkgbmdieaaGreatDoor
