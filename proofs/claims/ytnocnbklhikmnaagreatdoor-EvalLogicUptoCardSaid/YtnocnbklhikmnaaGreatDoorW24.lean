/- Part 24 of the proof. -/
import Derived.Test.YtnocnbklhikmnaaGreatDoorW18
import Derived.Test.YtnocnbklhikmnaaGreatDoorW20
import Derived.Test.YtnocnbklhikmnaaGreatDoorW23
set_option linter.unusedVariables false
set_option maxRecDepth 1000000
set_option maxHeartbeats 16000000
namespace Go.Proofs.YtnocnbklhikmnaaGreatDoor
variable{B:Nat}{Q:Exit->Act->World->Prop}{a:Act}{b:Nat}{κ:Type}{enc:κ->Value}{hi:Nat}{k:TypeId}{l:List UInt8}{lo:Nat}{lst:List (κ×Value)}{mb:Nat}{ops:Array Oper}{rest:List Oper}{t:TypeId}{v:Value}{w w':World}{α:Type}
section
open Go Go.RowKit Go.BigFrame
theorem firstI_cases(m:Nat)(q:Nat->Bool):firstI m q= -1\/∃j:Nat,j<m/\firstI m q=(j:Int):=by
 unfold firstI;split
 ·rename_i k h
  exact .inr ⟨k,List.mem_range.1 (List.mem_of_find?_eq_some h),rfl⟩
 ·exact .inl rfl
theorem at0_cases(l:List M.Seg)(name:ByteArray)(occ:Int):M.at0 l name occ= -1\/∃j:Nat,j<l.length/\M.at0 l name occ=(j:Int):=by
 rw[at0_eq];exact firstI_cases _ _
theorem get_none(m:M.Msg)(p:M.Path)(h:¬(M.pathOk p=true/\p.fld≠0/\0<=M.at0 m.segs p.seg p.occ)):M.get m p=ByteArray.empty:=by
 unfold M.get;exact if_neg h
theorem get_any(d:M.Delims)(A:Option Addr)(c:Nat)(l:List M.Seg)(p:M.Path)(S:Nat->Prop)(w:World)(hS:∀b,S b->b<w.heap.size)(hok:SOk A l.length c)(hl:LAt ESeg w S A l.length l)(hp:p.ok64):
 Calls Tryz.prog 93 #[.agg #[.int .u8 (d.f.toNat:Int),.int .u8 (d.c.toNat:Int),.int .u8 (d.r.toNat:Int),.int .u8 (d.e.toNat:Int),.int .u8 (d.s.toNat:Int),.slice A l.length c],.agg #[.string p.seg,.int .i64 p.occ,.int .i64 p.fld,.int .i64 p.rep,.int .i64 p.comp,.int .i64 p.sub]] w fun e w'=>e= .returned (.string (M.get ⟨d,l⟩ p))/\Below w.heap.size w w':=by
 have KA:=q_ (fun(W:World) (h:Below w.heap.size w W)=>at_any d A c l p.seg p.occ S W (fun b hb=>Nat.lt_of_lt_of_le (hS b hb) h.size) hok (hl.below h hS) hp.2.1);have KV:=q_ (fun(W:World)=>pathValid_any p W hp.1);have HS:=q_ hS;have HL:=q_ hl;have HG:=q_ (get_none ⟨d,l⟩ p);have hm:=hok.le;obtain⟨w1,hw1⟩:∃w1,w1=w.alloc (.cells #[.int .u8 (d.f.toNat:Int),.int .u8 (d.c.toNat:Int),.int .u8 (d.r.toNat:Int),.int .u8 (d.e.toNat:Int),.int .u8 (d.s.toNat:Int),.slice A l.length c] 26):=⟨_,rfl⟩
 obtain⟨w2,hw2⟩:∃w2,w2=w1.alloc (.cells #[.string p.seg,.int .i64 p.occ,.int .i64 p.fld,.int .i64 p.rep,.int .i64 p.comp,.int .i64 p.sub] 135):=⟨_,rfl⟩
 have s1:w1.heap.size=w.heap.size+1:=by rw[hw1];simp
 have s2:w2.heap.size=w.heap.size+2:=by rw[hw2];simp[s1]
 have X1:=q_ (show Blk w2 w.heap.size 26 #[.int .u8 (d.f.toNat:Int),.int .u8 (d.c.toNat:Int),.int .u8 (d.r.toNat:Int),.int .u8 (d.e.toNat:Int),.int .u8 (d.s.toNat:Int),.slice A l.length c] by rw[hw2,hw1];exact(Blk.new w _ _).alloc _);have X2:=q_ (show Blk w2 (w.heap.size+1) 135 #[.string p.seg,.int .i64 p.occ,.int .i64 p.fld,.int .i64 p.rep,.int .i64 p.comp,.int .i64 p.sub] by rw[hw2];exact s1▸Blk.new w1 _ _);have B2:=q_ (show Below w.heap.size w w2 by rw[hw2,hw1];exact((Below.refl _ w).alloc (n_) _).alloc (by simp) _);clear hl hok hS;go_enter Tryz.func93,Tryz.ntmps93;go_wp2_with fail;rw[<-hw1,<-hw2];clear hw1 hw2;refine(KA.o _ B2.o).mono ?_
 rintro e w3 ⟨rfl,hb3⟩;have B3:=q_ (B2.o.trans (hb3.mono B2.o.size));have G3:=q_ hb3;have z1:=(X1.o.below hb3 (by omega)).cell;have z2:=(X2.o.below hb3 (by omega)).cell;clear hb3;go_wp2_with fail;refine(KV.o _).mono ?_
 rintro e w4 ⟨rfl,hb4⟩;have B4:=q_ (B3.o.trans (hb4.mono B3.o.size));have G4:=q_ (G3.o.trans (hb4.mono G3.o.size));have z1:=(X1.o.below G4.o (by omega)).cell;have z2:=(X2.o.below G4.o (by omega)).cell;clear hb4;cases hV:M.pathOk p
 ·have HE:=q_ (HG.o (by rw[hV];simp))
  go_wp2;go_ret;rw[HE.o];exact⟨rfl,B4.o⟩
 ·by_cases hF:p.fld=0
  ·have HE:=q_ (HG.o (by rw[hF];simp))
   have qf:(p.fld==0)=true:=by simp[hF]
   go_wp2;go_ret;rw[HE.o];exact⟨rfl,B4.o⟩
  ·have qf:(p.fld==0)=false:=by simp[hF]
   rcases at0_cases l p.seg p.occ with hi|⟨j,hj,hi⟩
   ·have HE:=q_ (HG.o (by rw[hi];simp))
    rw[hi];go_wp2;go_ret;rw[HE.o];exact⟨rfl,B4.o⟩
   ·obtain⟨a,s,u,v,rfl,hb,hx,hr,hc1,hc2⟩:=HL.o.in2 rfl hj
    obtain⟨Af,cf,e5,-,hokf,hlf⟩:=ESeg.inv hr;injection e5 with e5 e6;injection e6 with e6 _;subst e5 e6;obtain⟨v1,b1,hr1,k1⟩:=nthF_any EField rfl [] Af cf s.fields p.fld S w HS.o Enc.list_nil hokf hlf hp.2.2.1;obtain⟨A1,c1,rfl,hok1,hl1⟩:=Enc.list_inv (E:=ERep) hr1;obtain⟨v2,b2,hr2,k2⟩:=nthR_any ERep rfl [] A1 c1 _ p.rep S w HS.o Enc.list_nil hok1 hl1 hp.2.2.2.1;obtain⟨A2,c2,rfl,hok2,hl2⟩:=Enc.list_inv (E:=EComp) hr2;obtain⟨v3,b3,hr3,k3⟩:=nthC_any EComp rfl [] A2 c2 _ p.comp S w HS.o Enc.list_nil hok2 hl2 hp.2.2.2.2.1;obtain⟨A3,c3,rfl,hok3,hl3⟩:=Enc.list_inv (E:=EStr) hr3;obtain⟨v4,b4,hr4,k4⟩:=nthS_any EStr rfl ByteArray.empty A3 c3 _ p.sub S w HS.o (EStr.mk (by decide)) hok3 hl3 hp.2.2.2.2.2;obtain⟨rfl,-⟩:=EStr.inv hr4
    have hget:M.get ⟨d,l⟩ p=M.nth ByteArray.empty (M.nth [] (M.nth [] (M.nth [] s.fields p.fld) p.rep) p.comp) p.sub:=by
     unfold M.get;rw[if_pos ⟨hV,hF,by rw[hi];omega⟩,hi];simp[hx]
    rw[<-hget] at k4;have K1:=q_ k1;have K2:=q_ k2;have K3:=q_ k3;have K4:=q_ k4;have HX:=q_ (fun(x:Ext w4)=>B4.o.trans (x.hb.mono B4.o.size));have HX2:=q_ (fun(x:Ext w4)=>G4.o.trans (x.hb.mono G4.o.size));have C1:=q_ (fun(W:World) (h:Below w.heap.size w W)=>(h.cell (p:=⟨(a.add (j*2)).block,(a.add (j*2)).off+1,none⟩) (by show(a.add (j*2)).block<_;rw[block_of_add];exact HS.o _ hb)).trans hc2);have t1:=C1.o _ B4.o;have y1:=fun(x:Ext w4)=>C1.o x.wd (HX.o x);have y2:=fun(x:Ext w4)=>(X1.o.below (HX2.o x) (by omega)).cell;have y3:=fun(x:Ext w4)=>(X2.o.below (HX2.o x) (by omega)).cell;rw[hi];have KR:=q_ (fun(x:Ext w4)=>K1.o _ (HX.o x));clear hx hr hc1 hc2 hr1 hr2 hr3 hr4 hok1 hok2 hok3 hokf hl1 hl2 hl3 hlf k1 k2 k3 k4 hi hget;go_wp2_with fail;refine wp_region_ext (by kernel_rfl) (by kernel_rfl) ?_
    repeat(first|go_big_quiet_step ((go_at_call 138;exact Ext.calls _ (KR.o _)))|quiet_step ((go_at_call 138;exact Ext.calls _ (KR.o _))))
    refine wpQuiet_nil ?_;intro w5 hb5;have B5:=q_ (B4.o.trans (hb5.mono B4.o.size));have G5:=q_ (G4.o.trans (hb5.mono G4.o.size));clear y1 y2 y3 t1 hb5;have z1:=(X1.o.below G5.o (by omega)).cell;have z2:=(X2.o.below G5.o (by omega)).cell;go_wp2_with fail;refine(K2.o _ B5.o).mono ?_
    rintro e w6 ⟨rfl,hb6⟩;have B6:=q_ (B5.o.trans (hb6.mono B5.o.size));have G6:=q_ (G5.o.trans (hb6.mono G5.o.size));have z1:=(X1.o.below G6.o (by omega)).cell;have z2:=(X2.o.below G6.o (by omega)).cell;clear hb6;go_wp2_with fail;refine(K3.o _ B6.o).mono ?_
    rintro e w7 ⟨rfl,hb7⟩;have B7:=q_ (B6.o.trans (hb7.mono B6.o.size));have G7:=q_ (G6.o.trans (hb7.mono G6.o.size));have z1:=(X1.o.below G7.o (by omega)).cell;have z2:=(X2.o.below G7.o (by omega)).cell;clear hb7;go_wp2_with fail;refine(K4.o _ B7.o).mono ?_
    rintro e w8 ⟨rfl,hb8⟩;have B8:=q_ (B7.o.trans (hb8.mono B7.o.size));clear hb8;go_wp2_with fail;go_ret;exact⟨rfl,B8.o⟩
theorem text_ne_empty(s:ByteArray):(s.toList !=[])= !s.data.toList.isEmpty:=by
 rw[ByteArray.toList_eq];cases s.data.toList<;>rfl
theorem has_any(d:M.Delims)(A:Option Addr)(c:Nat)(l:List M.Seg)(p:M.Path)(S:Nat->Prop)(w:World)(hS:∀b,S b->b<w.heap.size)(hok:SOk A l.length c)(hl:LAt ESeg w S A l.length l)(hp:p.ok64):
 Calls Tryz.prog 164 #[.agg #[.int .u8 (d.f.toNat:Int),.int .u8 (d.c.toNat:Int),.int .u8 (d.r.toNat:Int),.int .u8 (d.e.toNat:Int),.int .u8 (d.s.toNat:Int),.slice A l.length c],.agg #[.string p.seg,.int .i64 p.occ,.int .i64 p.fld,.int .i64 p.rep,.int .i64 p.comp,.int .i64 p.sub]] w fun e w'=>e= .returned (.bool (M.has ⟨d,l⟩ p))/\Below w.heap.size w w':=by
 have KA:=q_ (fun(W:World) (h:Below w.heap.size w W)=>at_any d A c l p.seg p.occ S W (fun b hb=>Nat.lt_of_lt_of_le (hS b hb) h.size) hok (hl.below h hS) hp.2.1);have KG:=q_ (fun(W:World) (h:Below w.heap.size w W)=>get_any d A c l p S W (fun b hb=>Nat.lt_of_lt_of_le (hS b hb) h.size) hok (hl.below h hS) hp);have KV:=q_ (fun(W:World)=>pathValid_any p W hp.1);obtain⟨w1,hw1⟩:∃w1,w1=w.alloc (.cells #[.int .u8 (d.f.toNat:Int),.int .u8 (d.c.toNat:Int),.int .u8 (d.r.toNat:Int),.int .u8 (d.e.toNat:Int),.int .u8 (d.s.toNat:Int),.slice A l.length c] 26):=⟨_,rfl⟩
 obtain⟨w2,hw2⟩:∃w2,w2=w1.alloc (.cells #[.string p.seg,.int .i64 p.occ,.int .i64 p.fld,.int .i64 p.rep,.int .i64 p.comp,.int .i64 p.sub] 135):=⟨_,rfl⟩
 have s1:w1.heap.size=w.heap.size+1:=by rw[hw1];simp
 have s2:w2.heap.size=w.heap.size+2:=by rw[hw2];simp[s1]
 have X1:=q_ (show Blk w2 w.heap.size 26 #[.int .u8 (d.f.toNat:Int),.int .u8 (d.c.toNat:Int),.int .u8 (d.r.toNat:Int),.int .u8 (d.e.toNat:Int),.int .u8 (d.s.toNat:Int),.slice A l.length c] by rw[hw2,hw1];exact(Blk.new w _ _).alloc _);have X2:=q_ (show Blk w2 (w.heap.size+1) 135 #[.string p.seg,.int .i64 p.occ,.int .i64 p.fld,.int .i64 p.rep,.int .i64 p.comp,.int .i64 p.sub] by rw[hw2];exact s1▸Blk.new w1 _ _);have B2:=q_ (show Below w.heap.size w w2 by rw[hw2,hw1];exact((Below.refl _ w).alloc (n_) _).alloc (by simp) _);have HH:=q_ (show M.has ⟨d,l⟩ p=(M.pathOk p&&if p.fld=0 then decide (0<=M.at0 l p.seg p.occ) else !(M.get ⟨d,l⟩ p).data.toList.isEmpty) from rfl);clear hl hok hS hp;generalize l.length=m at*;go_enter Tryz.func164,Tryz.ntmps164;go_wp2_with fail;rw[<-hw1,<-hw2];clear hw1 hw2;refine(KV.o _).mono ?_
 rintro e w3 ⟨rfl,hb3⟩;have B3:=q_ (B2.o.trans (hb3.mono B2.o.size));have z1:=(X1.o.below hb3 (by omega)).cell;have z2:=(X2.o.below hb3 (by omega)).cell;clear hb3;cases hV:M.pathOk p
 ·go_wp2
  go_ret;exact⟨by rw[HH.o,hV];rfl,B3.o⟩
 ·by_cases hF:p.fld=0
  ·have qf:(p.fld==0)=true:=by simp[hF]
   go_wp2_with fail;refine(KA.o _ B3.o).mono ?_
   rintro e w4 ⟨rfl,hb4⟩;have B4:=q_ (B3.o.trans (hb4.mono B3.o.size));clear hb4;go_wp2;go_ret;exact⟨by rw[HH.o,hV,if_pos hF];simp,B4.o⟩
  ·have qf:(p.fld==0)=false:=by simp[hF]
   go_wp2_with fail;refine(KG.o _ B3.o).mono ?_
   rintro e w4 ⟨rfl,hb4⟩;have B4:=q_ (B3.o.trans (hb4.mono B3.o.size));clear hb4;have hq:=text_ne_empty (M.get ⟨d,l⟩ p);go_wp2;go_ret;exact⟨by rw[HH.o,hV,if_neg hF];simp[ByteArray.toList_eq],B4.o⟩
theorem count_any(d:M.Delims)(A:Option Addr)(c:Nat)(l:List M.Seg)(name:ByteArray)(S:Nat->Prop)(w:World)(hS:∀b,S b->b<w.heap.size)(hok:SOk A l.length c)(hl:LAt ESeg w S A l.length l):
 Calls Tryz.prog 166 #[.agg #[.int .u8 (d.f.toNat:Int),.int .u8 (d.c.toNat:Int),.int .u8 (d.r.toNat:Int),.int .u8 (d.e.toNat:Int),.int .u8 (d.s.toNat:Int),.slice A l.length c],.string name] w fun e w'=>e= .returned (.int .i64 (M.count ⟨d,l⟩ name))/\Below w.heap.size w w':=by
 have hm:=hok.le;have HL:=q_ hl;have HS:=q_ hS;have HC:=q_ (show M.count ⟨d,l⟩ name=cntN l name l.length by unfold cntN M.count;rw[List.take_length]);have HN:=q_ (fun k s (h:l[k]? =some s)=>cntN_succ (name:=name) h);have HZ:=q_ (cntN_le l name);generalize hml:l.length=m at*;clear hl hS hok;obtain⟨w1,hw1⟩:∃w1,w1=w.alloc (.cells #[.int .u8 (d.f.toNat:Int),.int .u8 (d.c.toNat:Int),.int .u8 (d.r.toNat:Int),.int .u8 (d.e.toNat:Int),.int .u8 (d.s.toNat:Int),.slice A m c] 26):=⟨_,rfl⟩
 have X1:=q_ (show Blk w1 w.heap.size 26 #[.int .u8 (d.f.toNat:Int),.int .u8 (d.c.toNat:Int),.int .u8 (d.r.toNat:Int),.int .u8 (d.e.toNat:Int),.int .u8 (d.s.toNat:Int),.slice A m c] by rw[hw1];exact Blk.new w _ _);have B1:=q_ (show Below w.heap.size w w1 by rw[hw1];exact(Below.refl _ w).alloc (n_) _);have s1:w1.heap.size=w.heap.size+1:=by rw[hw1];simp
 have z1:=X1.o.cell;go_enter Tryz.func166,Tryz.ntmps166;go_wp2_with fail;rw[<-hw1];clear hw1;go_wp2_with fail;go_loopw [5,11] (fun x y wr=>∃k:Nat,k<=m/\x= .int .i64 (cntN l name k:Nat)/\y= .int .i64 k/\Below w.heap.size w wr) (fun _ y _=>m-(intOf y).toNat)
 case atStart=>exact⟨0,by omega,rfl,rfl,B1.o⟩
 case round=>
  obtain⟨k,hk,rfl,rfl,hbel⟩:=hrel;have HB:=q_ hbel;clear hbel;by_cases hlt:k<m
  ·have q1:decide ((k:Int)<(m:Int))=true:=by simp;omega
   obtain⟨a,s,u,v,rfl,hb,hx,hr,hc1,hc2⟩:=(HL.o.below HB.o HS.o).in2 rfl (by rw[<-hml] at hlt;exact hml▸hlt);obtain⟨Af,cf,e5,-,-,-⟩:=ESeg.inv hr;injection e5 with e5 e6;injection e6 with e6 _;subst e5 e6;have hs:=HN.o k s hx;have hz:=HZ.o k;have hq:=eqT_text s.name name;have E2:=q_ (Blk.new wr 45 #[.string s.name,.slice Af s.fields.length cf]);have B2:=q_ (HB.o.alloc HB.o.size (.cells #[.string s.name,.slice Af s.fields.length cf] 45));have z2:=E2.o.cell;clear hx hr;cases ht:M.eqT s.name name
   ·rw[ht] at hq hs
    go_wp2_with fail;go_roundw
    case rel=>exact⟨k+1,by omega,by rw[hs];simp,by go_num,B2.o⟩
    case measure=>simp[intOf];omega
   ·rw[ht] at hq hs
    go_wp2_with fail;go_roundw
    case rel=>exact⟨k+1,by omega,by rw[hs];go_num,by go_num,B2.o⟩
    case measure=>simp[intOf];omega
  ·have q1:decide ((k:Int)<(m:Int))=false:=by simp;omega
   go_wp2;go_ret;exact⟨by rw[HC.o,show k=m by omega];rfl,HB.o⟩
theorem stringsClone_any(s:ByteArray)(w:World)(hs:s.size<=281474976710656):Calls Tryz.prog 47 #[.string s] w fun e w'=>e= .returned (.string s)/\Below w.heap.size w w':=by
 have K:=q_ (fun W=>Tryz.stringslite_Clone s W hs);go_enter Tryz.func47,Tryz.ntmps47;go_wp2_with fail;refine(K.o _).mono ?_
 rintro e w2 ⟨rfl,hb⟩;have HB:=q_ hb;clear hb;go_wp2;go_ret;exact⟨rfl,HB.o⟩
theorem dropWhile_le(p:α->Bool)(l:List α):(l.dropWhile p).length<=l.length:=(List.dropWhile_suffix p).sublist.length_le
theorem trimS_le(l cs:List UInt8):(Lib.trimS l cs).length<=l.length:=by
 unfold Lib.trimS Lib.trimLeftS Lib.trimRightS;refine Nat.le_trans (dropWhile_le _ _) ?_;rw[List.length_reverse];refine Nat.le_trans (dropWhile_le _ _) ?_;rw[List.length_reverse];exact n_
theorem T_size(l:List UInt8):(M.T l).size=l.length:=by simp[M.T,ByteArray.size]
theorem trim_le(s:ByteArray):(M.trim s).size<=s.size:=by
 unfold M.trim;rw[T_size];refine Nat.le_trans (trimS_le _ _) ?_;exact Nat.le_of_eq (Array.length_toList (xs:=s.data))
theorem textTrim_any(s:ByteArray)(w:World)(hs:s.size<=1048576):Calls Tryz.prog 148 #[.string s] w fun e w'=>e= .returned (.string (M.trim s))/\Below w.heap.size w w':=by
 have KT:=q_ (fun(W:World)=>Tryz.strings_Trim info232 s ⟨#[32,9,10,13]⟩ W (by omega) (by decide) (ascii_of_all (by decide)));have KC:=q_ (fun(W:World)=>stringsClone_any (M.trim s) W (by have:=trim_le s;omega));go_enter Tryz.func148,Tryz.ntmps148;go_wp2_with fail;refine(KT.o _).mono ?_
 rintro e w2 ⟨rfl,hb⟩;have HB:=q_ hb;clear hb;go_wp2_with fail;refine(KC.o w2).mono ?_
 rintro e w3 ⟨rfl,hb⟩;have HB2:=q_ (HB.o.trans (hb.mono HB.o.size));clear hb;go_wp2;go_ret;exact⟨rfl,HB2.o⟩
theorem textFind_any(s part:ByteArray)(m:Int)(w:World)(hs:s.size<=1048576)(hm:w.cell? ⟨2,0,none⟩=some (.int .i64 m)):Calls Tryz.prog 152 #[.string s,.string part] w fun e w'=>e= .returned (.int .i64 (M.find s part))/\Below w.heap.size w w':=by
 have KT:=q_ (Tryz.strings_Index s part m w (by omega) hm);have h1:=Lib.index_ge s.data.toList part.data.toList;have h2:=Lib.index_le s.data.toList part.data.toList;have h3:s.data.toList.length=s.size:=Array.length_toList;have HF:=q_ (show M.find s part=Lib.index s.data.toList part.data.toList+1 from rfl);generalize Lib.index s.data.toList part.data.toList=i at*;have q1:wrap64 (i+1)=i+1:=by unfold wrap64;omega
 clear hm;go_enter Tryz.func152,Tryz.ntmps152;go_wp2_with fail;refine KT.o.mono ?_;rintro e w2 ⟨rfl,rfl⟩;go_wp2;go_ret;rw[HF.o];exact⟨by simp[],Below.refl _ _⟩
theorem extract_T(s:ByteArray)(x y:Nat):s.extract x y=M.T (((M.L s).drop x).take (y-x)):=by
 have h:(s.extract x y).data.toList=((M.L s).drop x).take (y-x):=by
  rw[ByteArray.data_extract,Array.toList_extract,List.extract_eq_take_drop];rfl
 unfold M.T;rw[<-h]
theorem sub_eq(s:ByteArray)(a n:Int):s.extract (min (max a 0) (s.size:Int)).toNat (min (max a 0) (s.size:Int)+min (max n 0) ((s.size:Int)-min (max a 0) (s.size:Int))).toNat=M.sub s a n:=by
 rw[extract_T];unfold M.sub;have e1:(min (max a 0) (s.size:Int)).toNat=(M.clampI a 0 s.size).toNat:=by unfold M.clampI;split<;>(try split)<;>omega
 have e2:(min (max a 0) (s.size:Int)+min (max n 0) ((s.size:Int)-min (max a 0) (s.size:Int))).toNat-(min (max a 0) (s.size:Int)).toNat=(M.clampI n 0 ((s.size-(M.clampI a 0 s.size).toNat:Nat):Int)).toNat:=by
  rw[<-e1];unfold M.clampI;split<;>(try split)<;>omega
 rw[e2,e1]
theorem textSub_any(s:ByteArray)(a n:Int)(w:World)(hs:s.size<=1048576)(ha:I64 a)(hn:I64 n):Calls Tryz.prog 150 #[.string s,.int .i64 a,.int .i64 n] w fun e w'=>e= .returned (.string (M.sub s a n))/\Below w.heap.size w w':=by
 have KC:=q_ (fun(W:World) (t:ByteArray) (h:t.size<=1048576)=>stringsClone_any t W (by omega));have HB:=q_ (show(M.sub s a n).size<=1048576 by rw[<-sub_eq];simp[ByteArray.size_extract];omega);go_enter Tryz.func150,Tryz.ntmps150;go_wp2_with fail;rw[sub_eq];refine(KC.o _ _ HB.o).mono ?_
 rintro e w2 ⟨rfl,hb⟩;have HB:=q_ hb;clear hb;go_wp2;go_ret;exact⟨by first|rfl|rw[sub_eq],HB.o⟩
def turnedTo(f:UInt8->UInt8)(l:List UInt8)(k:Nat):List UInt8:=(l.take k).map f++l.drop k
theorem turnedTo_len(f:UInt8->UInt8)(l:List UInt8)(k:Nat):(turnedTo f l k).length=l.length:=by
 unfold turnedTo;rw[List.length_append,List.length_map,<-List.length_append,List.take_append_drop]
theorem turnedTo_at(f:UInt8->UInt8)(l:List UInt8)(k:Nat)(hk:k<l.length):(turnedTo f l k)[k]? =l[k]? :=by
 unfold turnedTo;rw[List.getElem?_append_right (by simp;omega)];simp only[List.length_map,List.length_take,List.getElem?_drop];congr 1;omega
theorem turnedTo_succ(f:UInt8->UInt8)(l:List UInt8)(k:Nat)(hk:k<l.length):turnedTo f l (k+1)=(turnedTo f l k).set k (f l[k]):=by
 unfold turnedTo;apply List.ext_getElem?;intro i;rw[List.getElem?_set];rcases Nat.lt_trichotomy i k with h|h|h
 ·rw[if_neg (by omega),List.getElem?_append_left (by simp;omega),List.getElem?_append_left (by simp;omega)]
  simp[h,show i<k+1 by omega]
 ·subst h
  rw[if_pos rfl,if_pos (by simp;omega),List.getElem?_append_left (by simp;omega)];simp[hk]
 ·rw[if_neg (by omega),List.getElem?_append_right (by simp;omega),List.getElem?_append_right (by simp;omega)]
  simp only[List.length_map,List.length_take,List.getElem?_drop];congr 1;omega
theorem turnedTo_same(f:UInt8->UInt8)(l:List UInt8)(k:Nat)(hk:k<l.length)(h:f l[k]=l[k]):turnedTo f l (k+1)=turnedTo f l k:=by
 rw[turnedTo_succ f l k hk,h];apply List.ext_getElem?;intro i;rw[List.getElem?_set];split
 ·next h1=>
  subst h1;rw[if_pos (by rw[turnedTo_len];exact hk),turnedTo_at f l _ hk,List.getElem?_eq_getElem hk]
 ·rfl
theorem turnedTo_all(f:UInt8->UInt8)(l:List UInt8):turnedTo f l l.length=l.map f:=by simp[turnedTo]
theorem turnB_in{b:UInt8}(h1:lo<=b.toNat)(h2:b.toNat<=hi):M.turnB lo hi b=b^^^32:=if_pos ⟨h1,h2⟩
theorem turnB_out{b:UInt8}(h:¬(lo<=b.toNat/\b.toNat<=hi)):M.turnB lo hi b=b:=if_neg h
theorem xor_32(b:UInt8):bits BinOp.xor IntKind.u8 (b.toNat:Int) 32=(((b^^^32).toNat:Nat):Int):=by
 have:=u8_xor_nat b.toNat 32 b.toNat_lt (by decide);rw[show((32:Nat):Int)=(32:Int) from rfl] at this;rw[this];simp
theorem turned_any(s:ByteArray)(lo hi:UInt8)(w:World)(hs:s.size<=1048576):Calls Tryz.prog 229 #[.string s,.int .u8 (lo.toNat:Int),.int .u8 (hi.toNat:Int)] w fun e w'=>e= .returned (.string (M.turned lo.toNat hi.toNat s))/\Below w.heap.size w w':=by
 obtain⟨c,W2,hcv,hc,hblk,hbel⟩:=bytes_of w s;have hlen:s.data.toList.length=s.size:=Array.length_toList;have HT:=q_ (show M.turned lo.toNat hi.toNat s=⟨(s.data.toList.map (M.turnB lo.toNat hi.toNat)).toArray⟩ from rfl);generalize s.data.toList=l at*;have K0:=q_ hblk;have B0:=q_ hbel;have HL:=q_ hlen;clear hblk hbel hlen;generalize hm:s.size=m at*;generalize hg:w.heap.size=g at*;go_enter Tryz.func229,Tryz.ntmps229;go_wp2_with fail;go_loopw [14] (fun x wr=>∃k:Nat,k<=m/\x= .int .i64 k/\Below g w wr/\BytesAt wr g (turnedTo (M.turnB lo.toNat hi.toNat) l k)) (fun x _=>m-(intOf x).toNat)
 case atStart=>exact⟨0,by omega,rfl,B0.o,by simpa[turnedTo] using K0.o⟩
 case round=>
  obtain⟨k,hk,rfl,hb,hbt⟩:=hrel;have HB:=q_ hb;have BT:=q_ hbt;clear hb hbt;by_cases hlt:k<m
  ·have q1:decide ((k:Int)<(m:Int))=true:=by simp;omega
   have hkl:k<l.length:=by have:=HL.o;omega
   have hkd:k<(turnedTo (M.turnB lo.toNat hi.toNat) l k).length:=by rw[turnedTo_len];exact hkl
   have hc0:=BT.o.cell k hkd
   have he:(turnedTo (M.turnB lo.toNat hi.toNat) l k)[k]=l[k]:=by
    have:=turnedTo_at (M.turnB lo.toNat hi.toNat) l k hkl;rw[List.getElem?_eq_getElem hkd,List.getElem?_eq_getElem hkl] at this;exact Option.some.inj this
   rw[he] at hc0;have hf0:=BT.o.frozen k hkd;have HS:=q_ (turnedTo_succ (M.turnB lo.toNat hi.toNat) l k hkl);have HE:=q_ (turnedTo_same (M.turnB lo.toNat hi.toNat) l k hkl);have hx:=xor_32 l[k];have HB32:=q_ (BT.o.set_ k hkd (l[k]^^^32));have HG32:=q_ (grown_set wr g k (.int .u8 ((l[k]^^^32).toNat:Int)));have HW:=q_ (show g<=w.heap.size from by omega);clear he hkd;by_cases h1:lo.toNat<=l[k].toNat
   ·have q2:decide ((lo.toNat:Int)<=(l[k].toNat:Int))=true:=by simpa using h1
    by_cases h2:l[k].toNat<=hi.toNat
    ·have q3:decide ((l[k].toNat:Int)<=(hi.toNat:Int))=true:=by simpa using h2
     have H2:=q_ (show BytesAt (wr.setCell ⟨g,k,none⟩ (.int .u8 ((l[k]^^^32).toNat:Int))) g (turnedTo (M.turnB lo.toNat hi.toNat) l (k+1)) by
      rw[HS.o,turnB_in h1 h2];exact HB32.o)
     have H3:=q_ (below_gr (hg▸HB.o) HG32.o (by omega));go_wp2;go_roundw
     case rel=>exact⟨k+1,by omega,by go_num,hg▸H3.o,H2.o⟩
     case measure=>simp[intOf];omega
    ·have q3:decide ((l[k].toNat:Int)<=(hi.toNat:Int))=false:=by simpa using h2
     have H2:=q_ (HE.o (turnB_out (by omega)));go_wp2;go_roundw
     case rel=>exact⟨k+1,by omega,by go_num,HB.o,by rw[H2.o];exact BT.o⟩
     case measure=>simp[intOf];omega
   ·have q2:decide ((lo.toNat:Int)<=(l[k].toNat:Int))=false:=by simpa using h1
    have H2:=q_ (HE.o (turnB_out (by omega)));go_wp2;go_roundw
    case rel=>exact⟨k+1,by omega,by go_num,HB.o,by rw[H2.o];exact BT.o⟩
    case measure=>simp[intOf];omega
  ·have q1:decide ((k:Int)<(m:Int))=false:=by simp;omega
   obtain rfl:k=m:=by omega
   have hst:=BT.o.string (c:=c);rw[turnedTo_len,HL.o] at hst;have hta:=turnedTo_all (M.turnB lo.toNat hi.toNat) l;rw[HL.o] at hta;rw[hta,<-HT.o] at hst;go_wp2;go_ret;exact⟨rfl,HB.o⟩
theorem upper_any(s:ByteArray)(w:World)(hs:s.size<=1048576):Calls Tryz.prog 144 #[.string s] w fun e w'=>e= .returned (.string (M.turned 97 122 s))/\Below w.heap.size w w':=by
 have K:=q_ (turned_any s 97 122 w hs);go_enter Tryz.func144,Tryz.ntmps144;go_wp2_with fail;refine K.o.mono ?_;rintro e w2 ⟨rfl,hb⟩;have HB:=q_ hb;clear hb;go_wp2;go_ret;exact⟨rfl,HB.o⟩
theorem lower_any(s:ByteArray)(w:World)(hs:s.size<=1048576):Calls Tryz.prog 146 #[.string s] w fun e w'=>e= .returned (.string (M.turned 65 90 s))/\Below w.heap.size w w':=by
 have K:=q_ (turned_any s 65 90 w hs);go_enter Tryz.func146,Tryz.ntmps146;go_wp2_with fail;refine K.o.mono ?_;rintro e w2 ⟨rfl,hb⟩;have HB:=q_ hb;clear hb;go_wp2;go_ret;exact⟨rfl,HB.o⟩
end
section
open Go.RowKit
theorem enters_134:Enters Tryz.prog 186:=fun _ _=>rfl
theorem enters_136:Enters Tryz.prog 188:=fun _ _=>rfl
theorem enters_137:Enters Tryz.prog 189:=fun _ _=>rfl
theorem enters_138:Enters Tryz.prog 190:=fun _ _=>rfl
theorem enters_140:Enters Tryz.prog 192:=fun _ _=>rfl
theorem enters_142:Enters Tryz.prog 194:=fun _ _=>rfl
theorem canon11_any(s:ByteArray)(w:World):Calls Tryz.prog 188 #[.string s] w fun e w'=>e= .returned (.string s)/\w=w':=by
 go_enter Tryz.func188,Tryz.ntmps188;go_wp2;go_ret;exact⟨rfl,rfl⟩
theorem canon12_any(s:ByteArray)(w:World):Calls Tryz.prog 189 #[.string s] w fun e w'=>e= .returned (.bool s.data.toList.isEmpty)/\w=w':=by
 go_enter Tryz.func189,Tryz.ntmps189;go_wp2;go_ret;exact⟨by simp[ByteArray.toList_eq],rfl⟩
theorem canon21_any(A:Option Addr)(n c:Nat)(w:World):Calls Tryz.prog 192 #[.slice A n c] w fun e w'=>e= .returned (.bool (decide (n=0)))/\w=w':=by
 go_enter Tryz.func192,Tryz.ntmps192;go_wp2;go_ret;exact⟨by rw[show((n:Int)==0)=decide (n=0) from by rw[Bool.eq_iff_iff];simp];rfl,rfl⟩
theorem canon3_any(A:Option Addr)(n c:Nat)(w:World):Calls Tryz.prog 194 #[.slice A n c] w fun e w'=>e= .returned (.bool (decide (n=0)))/\w=w':=by
 go_enter Tryz.func194,Tryz.ntmps194;go_wp2;go_ret;exact⟨by rw[show((n:Int)==0)=decide (n=0) from by rw[Bool.eq_iff_iff];simp];rfl,rfl⟩
theorem isEmpty_len(l:List α):decide (l.length=0)=l.isEmpty:=by cases l<;>simp
theorem canonC_any(u:Value)(l:List ByteArray)(S:Nat->Prop)(w:World)(h:EComp.R w S [u] l)(hS:∀b,S b->b<w.heap.size):
 Calls Tryz.prog 186 #[u] w (GivesE EComp w (M.canonC l)):=by
 obtain⟨A,c,rfl,hok,hl⟩:=Enc.list_inv (E:=EStr) h
 have K:=trim_any trimI1 EStr EStr rfl rfl (fun W S u y h=>⟨_,(EStr.inv h).1⟩) id (fun v=>v.data.toList.isEmpty) 188 189 #[] #[] A l.length c l S w hl hS hok enters_136 enters_137
  (fun W u x hb hr hx=>by
    obtain⟨rfl,hz⟩:=EStr.inv hr;exact(canon11_any x W).mono fun e w' ⟨he,hw⟩=>⟨_,he,EStr.mk hz,hw▸Below.refl _ _⟩)
  (fun W SW u y hb hr=>by
    obtain⟨rfl,hz⟩:=EStr.inv hr;exact(canon12_any y W).mono fun e w' ⟨he,hw⟩=>⟨he,hw▸Below.refl _ _⟩)
 rw[List.map_id] at K;have KK:=q_ K;clear K h hS hok hl;go_enter Tryz.func186,Tryz.ntmps186;go_wp2_with fail;refine KK.o.mono ?_;rintro e w2 ⟨v,rfl,hr,hb⟩;have HR:=q_ hr;have HB:=q_ hb;clear hr hb;go_wp2;go_ret;exact⟨_,rfl,HR.o,HB.o⟩
theorem canonR_any(u:Value)(l:List (List ByteArray))(g:Nat)(S:Nat->Prop)(w:World)(h:ERep.R w S [u] l)(hS:∀b,S b->b<w.heap.size)(hg:g<w.heap.size)(hc:w.cell? ⟨g,0,none⟩=some (.func (.func 186) #[] #[])):
 Calls Tryz.prog 190 #[u,.pointer (some ⟨g,0,none⟩)] w (GivesE ERep w (M.canonR l)):=by
 obtain⟨A,c,rfl,hok,hl⟩:=Enc.list_inv (E:=EComp) h
 have K:=trim_any trimI2 EComp EComp rfl rfl (fun W S u y h=>list_shape h) M.canonC List.isEmpty 186 192 #[] #[] A l.length c l S w hl hS hok enters_134 enters_140
  (fun W u x hb hr hx=>canonC_any u x S W hr (fun b h=>Nat.lt_of_lt_of_le (hS b h) hb.size))
  (fun W SW u y hb hr=>by
    obtain⟨A,c,rfl,hok,hl⟩:=Enc.list_inv (E:=EStr) hr;exact(canon21_any A y.length c W).mono fun e w' ⟨he,hw⟩=>⟨by rw[he,isEmpty_len],hw▸Below.refl _ _⟩)
 have KK:=q_ K;clear K h hS hok hl;go_enter Tryz.func190,Tryz.ntmps190;go_wp2_with fail;refine KK.o.mono ?_;rintro e w2 ⟨v,rfl,hr,hb⟩;have HR:=q_ hr;have HB:=q_ hb;clear hr hb;go_wp2;go_ret;exact⟨_,rfl,HR.o,HB.o⟩
theorem canonF_any(u:Value)(l:List (List (List ByteArray)))(S:Nat->Prop)(w:World)(h:EField.R w S [u] l)(hS:∀b,S b->b<w.heap.size):
 Calls Tryz.prog 113 #[u] w (GivesE EField w (M.canonF l)):=by
 obtain⟨A,c,rfl,hok,hl⟩:=Enc.list_inv (E:=ERep) h;have hb0:Below w.heap.size w (w.alloc (.cells #[.func (.func 186) #[] #[]] 183)):=(Below.refl _ _).alloc (n_) _
 have K:=trim_any trimI3 ERep ERep rfl rfl (fun W S u y h=>list_shape h) M.canonR List.isEmpty 190 194 #[.pointer (some ⟨w.heap.size,0,none⟩)] #[] A l.length c l S (w.alloc (.cells #[.func (.func 186) #[] #[]] 183)) (hl.below hb0 hS) (fun b h=>Nat.lt_of_lt_of_le (hS b h) hb0.size) hok enters_138 enters_142
  (fun W u x hb hr hx=>canonR_any u x w.heap.size S W hr (fun b h=>Nat.lt_of_lt_of_le (hS b h) (Nat.le_trans hb0.size hb.size)) (Nat.lt_of_lt_of_le (by simp) hb.size) ((hb.cell (p:=⟨w.heap.size,0,none⟩) (by simp)).trans ((Blk.new w _ _).cell 0)))
  (fun W SW u y hb hr=>by
    obtain⟨A,c,rfl,hok,hl⟩:=Enc.list_inv (E:=EComp) hr;exact(canon3_any A y.length c W).mono fun e w' ⟨he,hw⟩=>⟨by rw[he,isEmpty_len],hw▸Below.refl _ _⟩)
 have KK:=q_ K;have H0:=q_ hb0;clear K h hS hok hl hb0;go_enter Tryz.func113,Tryz.ntmps113;have hmf:∀(fn:Fn) (first cap:Array Value) (w:World),(Instr.makeFunc fn first cap).run Tryz.prog w= .ok (.func fn first cap) w:=fun _ _ _ _=>rfl;go_wp2_with fail;refine KK.o.mono ?_;rintro e w2 ⟨v,rfl,hr,hb⟩;have HR:=q_ (Enc.wide hr (S':=New w w2) (fun b h=>⟨Nat.le_trans H0.o.size h.1,h.2⟩));have HB:=q_ (H0.o.trans (hb.mono H0.o.size));clear hr hb;go_wp2;go_ret;exact⟨_,rfl,HR.o,HB.o⟩
end
section
open Go Go.RowKit Go.BigFrame
theorem wpList_store_cell{P:Program}{op:Oper}(hgd:op.guard=none)(ty:TypeId)(x y:Operand)(ho:op.op= .store ty x y)(b i:Nat)(v old:Value)(hx:a.eval x= .pointer (some ⟨b,i,none⟩))(hy:a.eval y=v)(hc:w.cell? ⟨b,i,none⟩=some old)(hf:w.frozen? ⟨b,i,none⟩=false)(hsz:(P.info? ty).map (·.size)=some 1)(h1:v.oneCell'=true)(h:∀w',w'=w.setCell ⟨b,i,none⟩ v->wpList P ops Q rest (a.put op.dst undef) w'):wpList P ops Q (op::rest) a w:=by
 refine wpList_plain hgd fun K' hK'=> ?_
 have hs:(storeVar ty ⟨b,i,none⟩ v).run P w= .ok () (w.setCells b i [v]):=by
  have:=run_storeCells_cells (P:=P) b i [v] 0 w (fun j hj=>by
   simp at hj;subst hj;rw[show i+0+0=i by omega,hc];rfl) (fun j hj=>by
   simp at hj;subst hj;exact hf) (fun u hu=>by simp at hu;subst hu;exact h1)
  cases hq:P.info? ty with
  |none=>simp[hq] at hsz
  |some i'=>
   have hs:i'.size=1:=by simpa[hq] using hsz
   simp only[Nat.add_zero] at this;simp[storeVar,sizeOf,typeInfo,hq,oneCell_cells h1,hs,this]
 unfold Oper.wp execOp;simp only[ho,hx,hy,Instr.storeAt,Instr.sureAddr,Sem.run_bind,Sem.run_pure,Result.andThen_ok,hs];exact hK' _ _ (h _ rfl)
theorem OwnE.ne_blk{E:Enc α}{T:TypeId}{g:Nat}{S:Nat->Prop}{xs:List α}{cs:Array Value}(h:OwnE E T w B S v xs)(hk:Blk w g t cs)(ht:t≠T):v.ownBlock≠some g:=by
 intro e;obtain⟨cs',ho,_⟩:=h.row;rcases ho.2 with⟨rfl,_⟩|⟨g',cap,cur,rfl,_,hh,_⟩
 ·cases e
 ·injection e with e
  subst e;have:=hk.symm.trans hh;injection this with this;injection this with _ this _;exact ht this
theorem OwnB.blk(h:OwnB w B v l)(hb:∀g,v.ownBlock=some g->w'.heap[g]? =w.heap[g]?):OwnB w' B v l:=ownsRow_blk h hb
theorem OwnB.form(h:OwnB w B v l):∃A c,v= .slice A l.length c/\(∀g,v.ownBlock=some g->B<=g):=by
 rcases h.2 with⟨rfl,h2⟩|⟨g,cap,cur,rfl,hB,hh,hnc,hcm,hcs,htake⟩
 ·exact⟨none,0,by rw[h2],fun g hg=>by simp[Value.ownBlock] at hg⟩
 ·exact⟨_,cap,rfl,fun g' hg=>by simp[Value.ownBlock] at hg;omega⟩
def BAt(w:World)(b B:Nat)(l:List UInt8):Prop:=
 ∃p A c,Blk w b 117 #[p,.slice A l.length c]/\(p= .pointer none\/p= .pointer (some ⟨b,0,none⟩))/\OwnB w B (.slice A l.length c) l
theorem BAt.below(h:BAt w b B l)(hb:Below w.heap.size w w'):BAt w' b B l:=by
 obtain⟨p,A,c,h1,h2,h3⟩:=h;exact⟨p,A,c,h1.below hb h1.lt,h2,h3.below hb (n_)⟩
theorem bcheck_any(b B:Nat)(l:List UInt8)(w:World)(h:BAt w b B l)(hbB:b<B):
 Calls Tryz.prog 126 #[.pointer (some ⟨b,0,none⟩)] w fun e w'=>e= .returned (.tuple #[])/\(∃A c,Blk w' b 117 #[.pointer (some ⟨b,0,none⟩),.slice A l.length c]/\OwnB w' B (.slice A l.length c) l)/\Below b w w'/\w'.heap.size=w.heap.size:=by
 obtain⟨p,A,c,h1,h2,h3⟩:=h;rcases h2 with rfl|rfl
 ·have hsh:w.shape? b=some (117,2):=by
   unfold World.shape?;rw[show w.heap[b]? =_ from h1];rfl
  refine(check_fresh 117 2 (by decide) (by kernel_rfl) b w (h1.cell 0) hsh (h1.frozen 0)).mono ?_
  rintro e w' ⟨rfl,rfl⟩;have hb2:∀j,j≠b->(w.setCell ⟨b,0,none⟩ (.pointer (some ⟨b,0,none⟩))).heap[j]? =w.heap[j]? :=fun j hj=>Below.heap_setCell w ⟨b,0,none⟩ _ j (by simpa using hj);refine⟨rfl,⟨A,c,h1.set_ 0 _,h3.blk fun g hg=>hb2 g ?_⟩,⟨rfl,rfl,rfl,by simp,fun j hj=>hb2 j (by omega)⟩,by simp⟩;have:=(World.ownsRow.lt h3 g hg).1;omega
 ·refine(check_used b w (h1.cell 0)).mono ?_
  rintro e w' ⟨rfl,rfl⟩;exact⟨rfl,⟨A,c,h1,h3⟩,Below.refl _ _,rfl⟩
theorem BAt.wrote{w4:World}{n cp cp2:Nat}{A A2:Option Addr}{l2:List UInt8}{m:Nat}(h:Blk w4 b 117 #[.pointer (some ⟨b,0,none⟩),.slice A m cp])(ho:OwnB w4 B (.slice A2 l2.length cp2) l2)(hb:Below b w w4)(hbB:b<B)(hn:n=l2.length):
 BAt (w4.setCell ⟨b,1,none⟩ (.slice A2 n cp2)) b B l2/\Below b w (w4.setCell ⟨b,1,none⟩ (.slice A2 n cp2)):=by
 subst hn;have hx:=h.set_ 1 (.slice A2 l2.length cp2);refine⟨⟨_,A2,cp2,hx,.inr rfl,ho.blk fun g hg=>Below.heap_setCell w4 ⟨b,1,none⟩ _ g ?_⟩,hb.setCell (n_) _⟩;have:=(World.ownsRow.lt ho g hg).1;show g≠b;omega
theorem wstr_any(b B:Nat)(l:List UInt8)(t:ByteArray)(w:World)(h:BAt w b B l)(hbB:b<B)(hB:B<=w.heap.size)(hl:l.length<=4194304)(ht:t.size<=4194304):
 Calls Tryz.prog 69 #[.pointer (some ⟨b,0,none⟩),.string t] w fun e w'=>(∃v,e= .returned v)/\BAt w' b B (l++t.data.toList)/\Below b w w':=by
 have K:=q_ (bcheck_any b B l w h hbB);clear h;go_enter Tryz.func69,Tryz.ntmps69;go_wp2_with fail;refine K.o.mono ?_;rintro e w1 ⟨rfl,⟨A,cp,hblk,hown⟩,hb1,hsz⟩;have c1:w1.cell? ⟨b,1,none⟩=some (.slice A l.length cp):=hblk.cell 1;have f1:=hblk.frozen 1;have HSZ:=q_ hsz;clear K hsz;go_wp2_with (at_builtin;refine wpList_append_str rfl (.tmp 12) (.tmp 13) rfl B (.slice A l.length cp) l rfl hown t rfl (by omega) (by have:=HSZ.o;omega) ?_;intro o4 w4 hown4 hb4;obtain⟨A2,cp2,rfl,hge⟩:=hown4.form;have hblk4:=hblk.below hb4 hbB;have c4:w4.cell? ⟨b,1,none⟩=some (.slice A l.length cp):=hblk4.cell 1;have f4:=hblk4.frozen 1);go_ret2;obtain⟨h1,h2⟩:=BAt.wrote (w:=w) (n:=l.length+t.size) hblk4 hown4 (hb1.trans (hb4.mono (Nat.le_of_lt hbB))) hbB (by simp);exact⟨⟨_,rfl⟩,h1,h2⟩
theorem BAt.isB(h:BAt w b B l)(hbB:b<B):Lib.IsBuilder 117 5 b b (Lib.byteCells l) w:=by
 obtain⟨p,A,c,h1,h2,h3⟩:=h
 have hown:w.ownsRow b 5 1 (.slice A l.length c) (Lib.byteCells l).length (Lib.byteCells l):=by
  have hl:(Lib.byteCells l).length=l.length:=by simp[Lib.byteCells]
  rw[hl];refine⟨h3.1,h3.2.imp id ?_⟩;rintro⟨g,cap,cur,e,hg,hr⟩;exact⟨g,cap,cur,e,by omega,hr⟩
 have hne:(Value.slice A l.length c).ownBlock≠some b:=fun e=>by
  have:=(World.ownsRow.lt h3 b e).1;omega
 rcases h2 with rfl|rfl
 ·exact .inl ⟨n_,_,h1,hown,hne⟩
 ·exact .inr ⟨n_,_,h1,hown,hne⟩
theorem blen_any(b B:Nat)(l:List UInt8)(w:World)(h:BAt w b B l)(hbB:b<B):Calls Tryz.prog 72 #[.pointer (some ⟨b,0,none⟩)] w fun e w'=>e= .returned (.int .i64 l.length)/\w'=w:=by
 have:=Tryz.Builder_Len b b (Lib.byteCells l) w (h.isB hbB);simpa[Lib.byteCells] using this
theorem bstr_any(b B:Nat)(l:List UInt8)(w:World)(h:BAt w b B l)(hbB:b<B):Calls Tryz.prog 73 #[.pointer (some ⟨b,0,none⟩)] w fun e w'=>e= .returned (.string ⟨l.toArray⟩)/\Below b w w':=by
 have hb:b<=w.heap.size:=by
  obtain⟨p,A,c,h1,h2,h3⟩:=h;exact Nat.le_of_lt h1.lt
 exact Tryz.Builder_String_any b b l w (h.isB hbB) hb
theorem cut_miss(s old:List UInt8)(h:Lib.index s old<0):Lib.cut s old=(s,[],false):=by unfold Lib.cut;rw[if_neg (by omega)]
theorem cut_hit(s old:List UInt8)(h:¬Lib.index s old<0):Lib.cut s old=(s.take (Lib.index s old).toNat,s.drop ((Lib.index s old).toNat+old.length),true):=by unfold Lib.cut;rw[if_pos (by omega)]
theorem replL_step(old by_:List UInt8)(k:Nat)(acc s:List UInt8):M.replL old by_ (k+1) acc s=
 if Lib.index s old<0 then(if 4096<(acc++s).length then none else some (acc++s))
 else(if 4096<(acc++s.take (Lib.index s old).toNat++by_).length then none else M.replL old by_ k (acc++s.take (Lib.index s old).toNat++by_) (s.drop ((Lib.index s old).toNat+old.length))):=rfl
theorem text_of(s:ByteArray):(⟨s.data.toList.toArray⟩:ByteArray)=s:=by cases s;simp
theorem old_ne(s:ByteArray):(s.toList.isEmpty)=M.isE s:=by rw[ByteArray.toList_eq];rfl
theorem replace_any(s old by_:ByteArray)(mx:Int)(w:World)(hs:s.size<=1048576)(ho:old.size<=1048576)(hb:by_.size<=1048576)(h2:2<w.heap.size)(hm:w.cell? ⟨2,0,none⟩=some (.int .i64 mx)):
 Calls Tryz.prog 155 #[.string s,.string old,.string by_] w fun e w'=>e=toldE (M.replace s old by_)/\Below w.heap.size w w':=by
 have HBB:=q_ ((Below.refl _ w).alloc (n_) (.cells #[.pointer none,.slice none 0 0] 117));have HA:=q_ (show BAt (w.alloc (.cells #[.pointer none,.slice none 0 0] 117)) w.heap.size (w.heap.size+1) [] from⟨.pointer none,none,0,Blk.new w _ _,.inl rfl,⟨rfl,.inl ⟨rfl,rfl⟩⟩⟩);have hz1:(w.alloc (.cells #[.pointer none,.slice none 0 0] 117)).heap.size=w.heap.size+1:=by simp
 have HZ:=q_ hz1;have HM:=q_ (fun(W:World) (h:Below w.heap.size w W)=>(h.cell (p:=⟨2,0,none⟩) h2).trans hm);have hon:=old_ne old;clear hz1 hm;cases hoe:M.isE old with
 |true=>
  rw[hoe] at hon;have HR:=q_ (show M.replace s old by_=if 4096<s.size then .error 2 else .ok s from if_pos hoe);clear hoe;go_enter Tryz.func155,Tryz.ntmps155;go_wp2_with fail;go_loopw [0] (fun v wr=>v= .string s/\BAt wr w.heap.size (w.heap.size+1) []/\Below w.heap.size w wr/\w.heap.size+1<=wr.heap.size) (fun v _=>0)
  case atStart=>exact⟨rfl,HA.o,HBB.o,by rw[HZ.o];exact n_⟩
  case round=>
   obtain⟨rfl,hba,hbl,hsz⟩:=hrel;have KW:=q_ (wstr_any w.heap.size (w.heap.size+1) [] s wr hba (by omega) hsz (by simp) (by omega));have B0:=q_ hbl;clear hba hbl;go_wp2_with fail;refine KW.o.mono ?_;rintro e w2 ⟨⟨v2,rfl⟩,hba2,hb2⟩;have A2:=q_ hba2;have B2:=q_ (B0.o.trans hb2);clear hba2 hb2;have KL:=q_ (blen_any w.heap.size (w.heap.size+1) _ w2 A2.o (by omega));have KS:=q_ (bstr_any w.heap.size (w.heap.size+1) _ w2 A2.o (by omega));rw[List.nil_append,text_of] at KS;rw[List.nil_append,show s.data.toList.length=s.size from Array.length_toList] at KL;go_wp2_with fail;refine KL.o.mono ?_;rintro e w3 ⟨rfl,rfl⟩;by_cases h4:4096<s.size
   ·have q4:decide ((4096:Int)<(s.size:Int))=true:=by simp;omega
    rw[if_pos h4] at HR;go_wp2;go_ret2;exact⟨by rw[HR.o];rfl,B2.o⟩
   ·have q4:decide ((4096:Int)<(s.size:Int))=false:=by simp;omega
    rw[if_neg h4] at HR;go_wp2_with fail;refine KS.o.mono ?_;rintro e w4 ⟨rfl,hb4⟩;have B4:=q_ (B2.o.trans hb4);clear hb4;go_wp2;go_ret2;exact⟨by rw[HR.o];rfl,B4.o⟩
 |false=>
  rw[hoe] at hon
  have hol:1<=old.data.toList.length:=by
   unfold M.isE at hoe;cases h:old.data.toList with
   |nil=>rw[h] at hoe;cases hoe
   |cons x l=>simp
  have HOL:=q_ hol;have HR:=q_ (show M.replace s old by_=match M.replL old.data.toList by_.data.toList (s.size+1) [] s.data.toList with|some l=> .ok (M.T l)|none=> .error 2 from if_neg (by rw[hoe];simp));clear hoe hol;have HOS:=q_ (show old.data.toList.length=old.size from Array.length_toList);have HBS:=q_ (show by_.data.toList.length=by_.size from Array.length_toList);have HST:=q_ (fun(k:Nat) (acc r:List UInt8)=>replL_step old.data.toList by_.data.toList k acc r);go_enter Tryz.func155,Tryz.ntmps155;go_wp2_with fail;go_loopw [0] (fun v wr=>∃(r:ByteArray) (acc:List UInt8) (k:Nat),v= .string r/\r.size<=1048576/\acc.length<=4096/\r.size<k/\M.replL old.data.toList by_.data.toList k acc r.data.toList=M.replL old.data.toList by_.data.toList (s.size+1) [] s.data.toList/\BAt wr w.heap.size (w.heap.size+1) acc/\Below w.heap.size w wr/\w.heap.size+1<=wr.heap.size) (fun v _=>match v with| .string r=>r.size|_=>0)
  case atStart=>exact⟨s,[],s.size+1,rfl,hs,by simp,by omega,rfl,HA.o,HBB.o,by rw[HZ.o];exact n_⟩
  case round=>
   obtain⟨r,acc,k,rfl,hr1,hacc,hrk,hre,hba,hbl,hsz⟩:=hrel;obtain⟨k,rfl⟩:∃k',k=k'+1:=⟨k-1,by omega⟩
   have RE:=q_ hre;have A0:=q_ hba;have B0:=q_ hbl;have KC:=q_ (Tryz.strings_Cut r old mx wr (by omega) (HM.o wr hbl));have RS:=q_ (show r.data.toList.length=r.size from Array.length_toList);have ST:=q_ (HST.o k acc r.data.toList);clear hre hba hbl;by_cases hi:Lib.index r.data.toList old.data.toList<0
   ·rw[cut_miss _ _ hi,text_of] at KC
    have HF:=q_ (show M.replace s old by_=if 4096<(acc++r.data.toList).length then .error 2 else .ok (M.T (acc++r.data.toList)) by
     rw[HR.o,<-RE.o,ST.o,if_pos hi];by_cases h:4096<(acc++r.data.toList).length
     ·rw[if_pos h,if_pos h]
     ·rw[if_neg h,if_neg h])
    go_wp2_with fail;refine KC.o.mono ?_;rintro e w1 ⟨rfl,n1,hn1⟩;have S1:=q_ (show Below wr.heap.size wr w1 by rw[hn1];exact below_drewN (Below.refl _ _) _);have A1:=q_ (A0.o.below S1.o);have B1:=q_ (B0.o.trans (S1.o.mono B0.o.size));have s1:=S1.o.size;clear hn1;have KW:=q_ (wstr_any w.heap.size (w.heap.size+1) acc r w1 A1.o (by omega) (by omega) (by omega) (by omega));go_wp2_with fail;refine KW.o.mono ?_;rintro e w2 ⟨⟨v2,rfl⟩,hba2,hb2⟩;have A2:=q_ hba2;have B2:=q_ (B1.o.trans hb2);clear hba2 hb2;have KL:=q_ (blen_any w.heap.size (w.heap.size+1) _ w2 A2.o (by omega));have KS:=q_ (bstr_any w.heap.size (w.heap.size+1) _ w2 A2.o (by omega));generalize acc++r.data.toList=res at*;go_wp2_with fail;refine KL.o.mono ?_;rintro e w3 ⟨rfl,rfl⟩;by_cases h4:4096<res.length
    ·have q4:decide ((4096:Int)<(res.length:Int))=true:=by simp;omega
     rw[if_pos h4] at HF;go_wp2;go_ret2;exact⟨by rw[HF.o];rfl,B2.o⟩
    ·have q4:decide ((4096:Int)<(res.length:Int))=false:=by simp;omega
     rw[if_neg h4] at HF;go_wp2_with fail;refine KS.o.mono ?_;rintro e w4 ⟨rfl,hb4⟩;have B4:=q_ (B2.o.trans hb4);clear hb4;go_wp2;go_ret2;exact⟨by rw[HF.o];rfl,B4.o⟩
   ·rw[cut_hit _ _ hi] at KC
    have hil:=Lib.index_le r.data.toList old.data.toList;rw[RS.o] at hil;have hir:=Lib.index_room r.data.toList old.data.toList (by omega);rw[RS.o] at hir;have STP:=q_ (ST.o.trans (if_neg hi));generalize hti:(Lib.index r.data.toList old.data.toList).toNat=i at*;have hi2:i+old.data.toList.length<=r.size:=by omega
    have tl:(r.data.toList.take i).length<=1048576:=by rw[List.length_take];omega
    have HD:=q_ (show(r.data.toList.drop (i+old.data.toList.length)).length<r.size by rw[List.length_drop,RS.o];have:=HOL.o;omega);clear hil hir hti hi;generalize hp:r.data.toList.take i=p at*;generalize hd:r.data.toList.drop (i+old.data.toList.length)=q at*;clear hp hd hi2;go_wp2_with fail;refine KC.o.mono ?_;rintro e w1 ⟨rfl,n1,hn1⟩;have S1:=q_ (show Below wr.heap.size wr w1 by rw[hn1];exact below_drewN (Below.refl _ _) _);have A1:=q_ (A0.o.below S1.o);have B1:=q_ (B0.o.trans (S1.o.mono B0.o.size));have s1:=S1.o.size;clear hn1;have hps:(⟨p.toArray⟩:ByteArray).size=p.length:=by simp[ByteArray.size]
    have hqs:(⟨q.toArray⟩:ByteArray).size=q.length:=by simp[ByteArray.size]
    have KW:=q_ (wstr_any w.heap.size (w.heap.size+1) acc ⟨p.toArray⟩ w1 A1.o (by omega) (by omega) (by omega) (by omega));go_wp2_with fail;refine KW.o.mono ?_;rintro e w2 ⟨⟨v2,rfl⟩,hba2,hb2⟩;have A2:=q_ (show BAt w2 w.heap.size (w.heap.size+1) (acc++p) by simpa using hba2);have B2:=q_ (B1.o.trans hb2);have s2:=hb2.size;clear hba2 hb2;have KV:=q_ (wstr_any w.heap.size (w.heap.size+1) (acc++p) by_ w2 A2.o (by omega) (by omega) (by rw[List.length_append];omega) (by omega));go_wp2_with fail;refine KV.o.mono ?_;rintro e w3 ⟨⟨v3,rfl⟩,hba3,hb3⟩;have A3:=q_ hba3;have B3:=q_ (B2.o.trans hb3);have s3:=hb3.size;clear hba3 hb3;have KL:=q_ (blen_any w.heap.size (w.heap.size+1) _ w3 A3.o (by omega));generalize acc++p++by_.data.toList=acc2 at*;go_wp2_with fail;refine KL.o.mono ?_;rintro e w4 ⟨rfl,rfl⟩;by_cases h4:4096<acc2.length
    ·have q4:decide ((4096:Int)<(acc2.length:Int))=true:=by simp;omega
     have HF:=q_ (show M.replace s old by_= .error 2 by rw[HR.o,<-RE.o,STP.o,if_pos h4]);go_wp2;go_ret2;exact⟨by rw[HF.o];rfl,B3.o⟩
    ·have q4:decide ((4096:Int)<(acc2.length:Int))=false:=by simp;omega
     have HF:=q_ (show M.replL old.data.toList by_.data.toList k acc2 q=M.replL old.data.toList by_.data.toList (s.size+1) [] s.data.toList by rw[<-RE.o,STP.o,if_neg h4]);have hql:=HD.o;go_wp2;go_roundw
     case rel=>exact⟨⟨q.toArray⟩,acc2,k,rfl,by omega,by omega,by omega,by simpa using HF.o,A3.o,B3.o,by omega⟩
     case measure=>simp;omega
end
section
open Go Go.RowKit Go.BigFrame Go.Maps Go.WideMaps
def assoc{κ:Type}[DecidableEq κ](y:κ):List (κ×Value)->Option Value
 |[]=>none
 |(k,v)::l=>if k=y then some v else assoc y l
def AssT(k:TypeId)[DecidableEq κ](enc:κ->Value)(w:World)(mb:Nat)(lst:List (κ×Value)):Prop:=MapT Tryz.prog k enc w mb (fun y=>assoc y lst)
theorem AssT.made(k:TypeId)[DecidableEq κ](enc:κ->Value)(w:World):AssT k enc (w.alloc (.map #[] 0)) w.heap.size []:=MapT.made w Tryz.prog k enc
theorem wpList_insert_U[DecidableEq κ]{o:Oper}(hg:o.guard=none)(m x v:Operand)(t e:TypeId)(hop:o.op=Op.insert t m x v)(hu:Tryz.prog.underlying t=some (.map k e))(K:Keyed Tryz.prog k)(hinj:∀x y,enc x=enc y->x=y)(key:κ)(n:FuncId)(caps:Array Value)(h:AssT k enc w mb lst)(hm:a.eval m= .map (some mb))(hx:a.eval x=enc key)(hv:a.eval v= .func (.func n) #[] caps)(hkey:∃kl,keyOf Tryz.prog k (enc key)=some kl)(hK:∀w',AssT k enc w' mb ((key,.func (.func n) #[] caps)::lst)->w.grownBy w' (some mb)->wpList Tryz.prog ops Q rest (a.put o.dst undef) w'):wpList Tryz.prog ops Q (o::rest) a w:=by
 refine wpList_plain hg fun K' hK'=> ?_;obtain⟨kl,hkl⟩:=hkey;obtain⟨w',hrun,r1,r2⟩:=MapT.store h K hu hinj hkl (.func (.func n) #[] caps)
 have r3:AssT k enc w' mb ((key,.func (.func n) #[] caps)::lst):=r1.congr fun y=>by
  show(if y=key then some (.func (.func n) #[] caps) else assoc y lst)=if key=y then some (.func (.func n) #[] caps) else assoc y lst
  by_cases hy:y=key
  ·rw[if_pos hy,if_pos hy.symm]
  ·rw[if_neg hy,if_neg (fun h=>hy h.symm)]
 unfold Oper.wp;simp[execOp,hop,hm,hx,hv,hrun,Result.andThen];exact hK' _ _ (hK w' r3 r2)
theorem AssT.look[DecidableEq κ]{e:TypeId}(h:AssT k enc w mb lst)(K:Keyed Tryz.prog k)(hu:Tryz.prog.underlying t=some (.map k e))(hinj:∀x y,enc x=enc y->x=y){x:κ}{kl:Lit}(hkey:keyOf Tryz.prog k (enc x)=some kl){z:Value}(hz:(zeroValue e).run Tryz.prog w= .ok z w){u:Value}(ha:assoc x lst=some u):
 (Instr.lookup t (.map (some mb)) (enc x) false).run Tryz.prog w= .ok u w:=by
 have:=MapT.look h K hu hinj hkey hz false;rw[this,ha];rfl
end
end Go.Proofs.YtnocnbklhikmnaaGreatDoor
