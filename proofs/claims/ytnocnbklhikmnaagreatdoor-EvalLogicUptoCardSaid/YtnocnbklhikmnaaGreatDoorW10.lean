/- Part 10 of the proof. -/
import Derived.Test.YtnocnbklhikmnaaGreatDoorW5
set_option linter.unusedVariables false
set_option maxRecDepth 1000000
set_option maxHeartbeats 16000000
namespace Go.Proofs.YtnocnbklhikmnaaGreatDoor
open Go.RowKit
def firstI(m:Nat)(q:Nat->Bool):Int:=match(List.range m).find? q with
 |some k=>(k:Int)
 |none=> -1
theorem firstI_hit{m k:Nat}{q:Nat->Bool}(hk:k<m)(hq:q k=true)(hno:∀j,j<k->q j=false):firstI m q=(k:Int):=by
 have:(List.range m).find? q=some k:=by
  rw[List.find?_range_eq_some];exact⟨hq,List.mem_range.2 hk,fun j hj=>by rw[hno j hj];rfl⟩
 unfold firstI;rw[this]
theorem firstI_none{m:Nat}{q:Nat->Bool}(hno:∀j,j<m->q j=false):firstI m q= -1:=by
 have:(List.range m).find? q=none:=by
  rw[List.find?_eq_none];intro j hj;rw[hno j (List.mem_range.1 hj)];simp
 unfold firstI;rw[this]
theorem firstI_nonneg{m:Nat}{q:Nat->Bool}:decide (0<=firstI m q)=(List.range m).any q:=by
 unfold firstI;cases h:(List.range m).find? q with
 |none=>
  rw[List.find?_eq_none] at h;have:(List.range m).any q=false:=by rw[List.any_eq_false];exact h
  rw[this];rfl
 |some k=>
  have h1:=List.mem_of_find?_eq_some h;have h2:=List.find?_some h;have:(List.range m).any q=true:=List.any_eq_true.2 ⟨k,h1,h2⟩;rw[this];simp
theorem any_range{α:Type}{m:Nat}{q:Nat->Bool}{xs:List α}{p:α->Bool}(hm:xs.length=m)(h:∀k x,xs[k]? =some x->q k=p x):(List.range m).any q=xs.any p:=by
 rw[Bool.eq_iff_iff,List.any_eq_true,List.any_eq_true];constructor
 ·rintro⟨k,hk,hq⟩
  have hk':k<xs.length:=by rw[hm];exact List.mem_range.1 hk
  exact⟨xs[k],List.getElem_mem hk',by rw[<-h k _ (List.getElem?_eq_getElem hk')];exact hq⟩
 ·rintro⟨x,hx,hp⟩
  obtain⟨k,hk⟩:=List.getElem?_of_mem hx;exact⟨k,List.mem_range.2 (by have:=(List.getElem?_eq_some_iff.1 hk).1;omega),by rw[h k x hk];exact hp⟩
section
variable {α:Type} {E:Enc α} {w w':World} {S:Nat->Prop} {A:Option Addr} {m:Nat} {xs:List α}
theorem two_cells{l:List Value}(h:l.length=2):∃u v,l=[u,v]:=by
 match l,h with
 |[u,v],_=>exact⟨u,v,rfl⟩
theorem LAt.in2{k:Nat}(hE:E.n=2)(h:LAt E w S A m xs)(hk:k<m):∃ad x u v,A=some ad/\S ad.block/\xs[k]? =some x/\E.R w S [u,v] x/\w.cell? (ad.add (k*2))=some u/\w.cell? ⟨(ad.add (k*2)).block,(ad.add (k*2)).off+1,none⟩=some v:=by
 obtain⟨ad,x,cs,rfl,hb,hx,hr,hc⟩:=h.in_ hk;obtain⟨u,v,rfl⟩:=two_cells ((E.len hr).trans hE);refine⟨ad,x,u,v,rfl,hb,hx,hr,?_,?_⟩
 ·have:=hc 0 u rfl
  rwa [hE,Nat.add_zero] at this
 ·have:=hc 1 v rfl
  rwa [hE,cell_add 1 (by omega)] at this
end
theorem idxSeg_any{α:Type}(E:Enc α)(hE:E.n=2)(q:Nat->Bool)(J:Nat->World->Prop)(fi:FuncId)(ci:Array Value)(A:Option Addr)(m c:Nat)(xs:List α)(S:Nat->Prop)(w:World)(hgi:Enters Tryz.prog fi)(hok:SOk A m c)(h0:J 0 w)(hl:∀k W,J k W->LAt E W S A m xs)(hq:∀k W x u v,k<m->J k W->xs[k]? =some x->E.R W S [u,v] x->Calls Tryz.prog fi (#[.agg #[u,v]]++ci) W fun e w'=>e= .returned (.bool (q k))/\J (k+1) w'):
 Calls Tryz.prog 226 #[.slice A m c,.func (.func fi) #[] ci] w fun e w'=>e= .returned (.int .i64 (firstI m q))/\∃k,J k w':=by
 have hm:=hok.le;have GI:=q_ hgi;have HL:=q_ hl;have HQ:=q_ hq;have J0:=q_ h0;have gi:=fun args w=>hgi args w;clear hgi hl hq h0 hok;go_enter Tryz.func226,Tryz.ntmps226;go_wp2_with fail;go_loopw [8] (fun x wr=>∃k:Nat,k<=m/\x= .int .i64 k/\(∀j,j<k->q j=false)/\J k wr) (fun x _=>m-(intOf x).toNat)
 case atStart=>exact⟨0,by omega,rfl,fun j hj=>by omega,J0.o⟩
 case round=>
  obtain⟨k,hk,rfl,hno,hj⟩:=hrel;have gi:=GI.o;unfold Enters at gi;have NO:=q_ hno;have JK:=q_ hj;clear hno hj;by_cases hlt:k<m
  ·obtain⟨ad,x,u,v,rfl,hb,hx,hr,hc,hc2⟩:=(HL.o k wr JK.o).in2 hE hlt
   have C:=q_ (HQ.o k wr x u v hlt JK.o hx hr);clear hx hr;go_wp2_with fail;refine C.o.mono ?_;rintro e w2 ⟨rfl,hj2⟩;have J2:=q_ hj2;clear hj2;cases ht:q k
   ·have N2:=q_ (show∀j,j<k+1->q j=false from fun j hj=>by
     rcases Nat.lt_or_ge j k with h1|h1
     ·exact NO.o j h1
     ·have:j=k:=by omega
      subst this;exact ht)
    clear ht;go_wp2;go_roundw
    case rel=>exact⟨k+1,by omega,by go_num,N2.o,J2.o⟩
    case measure=>simp[intOf];omega
   ·have HT:=q_ (firstI_hit hlt ht NO.o)
    clear ht;go_wp2;go_ret;rw[HT.o];exact⟨rfl,_,J2.o⟩
  ·have HT:=q_ (firstI_none (m:=m) (q:=q) (fun j hj=>NO.o j (by omega)))
   go_wp2;go_ret;rw[HT.o];exact⟨rfl,_,JK.o⟩
theorem idxF_any{α:Type}(E:Enc α)(hE:E.n=1)(q:Nat->Bool)(J:Nat->World->Prop)(fi:FuncId)(ci:Array Value)(A:Option Addr)(m c:Nat)(xs:List α)(S:Nat->Prop)(w:World)(hgi:Enters Tryz.prog fi)(hok:SOk A m c)(h0:J 0 w)(hl:∀k W,J k W->LAt E W S A m xs)(hq:∀k W x u,k<m->J k W->xs[k]? =some x->E.R W S [u] x->Calls Tryz.prog fi (#[u]++ci) W fun e w'=>e= .returned (.bool (q k))/\J (k+1) w'):
 Calls Tryz.prog 104 #[.slice A m c,.func (.func fi) #[] ci] w fun e w'=>e= .returned (.int .i64 (firstI m q))/\∃k,J k w':=by
 have hm:=hok.le;have GI:=q_ hgi;have HL:=q_ hl;have HQ:=q_ hq;have J0:=q_ h0;have gi:=fun args w=>hgi args w;clear hgi hl hq h0 hok;go_enter Tryz.func104,Tryz.ntmps104;go_wp2_with fail;go_loopw [8] (fun x wr=>∃k:Nat,k<=m/\x= .int .i64 k/\(∀j,j<k->q j=false)/\J k wr) (fun x _=>m-(intOf x).toNat)
 case atStart=>exact⟨0,by omega,rfl,fun j hj=>by omega,J0.o⟩
 case round=>
  obtain⟨k,hk,rfl,hno,hj⟩:=hrel;have gi:=GI.o;unfold Enters at gi;have NO:=q_ hno;have JK:=q_ hj;clear hno hj;by_cases hlt:k<m
  ·obtain⟨ad,x,u,rfl,hb,hx,hr,hc⟩:=(HL.o k wr JK.o).in1 hE hlt
   have C:=q_ (HQ.o k wr x u hlt JK.o hx hr);clear hx hr;go_wp2_with fail;refine C.o.mono ?_;rintro e w2 ⟨rfl,hj2⟩;have J2:=q_ hj2;clear hj2;cases ht:q k
   ·have N2:=q_ (show∀j,j<k+1->q j=false from fun j hj=>by
     rcases Nat.lt_or_ge j k with h1|h1
     ·exact NO.o j h1
     ·have:j=k:=by omega
      subst this;exact ht)
    clear ht;go_wp2;go_roundw
    case rel=>exact⟨k+1,by omega,by go_num,N2.o,J2.o⟩
    case measure=>simp[intOf];omega
   ·have HT:=q_ (firstI_hit hlt ht NO.o)
    clear ht;go_wp2;go_ret;rw[HT.o];exact⟨rfl,_,J2.o⟩
  ·have HT:=q_ (firstI_none (m:=m) (q:=q) (fun j hj=>NO.o j (by omega)))
   go_wp2;go_ret;rw[HT.o];exact⟨rfl,_,JK.o⟩
theorem hasF_any{α:Type}(E:Enc α)(hE:E.n=1)(q:Nat->Bool)(J:Nat->World->Prop)(fi:FuncId)(ci:Array Value)(A:Option Addr)(m c:Nat)(xs:List α)(S:Nat->Prop)(w:World)(hgi:Enters Tryz.prog fi)(hok:SOk A m c)(h0:J 0 w)(hl:∀k W,J k W->LAt E W S A m xs)(hq:∀k W x u,k<m->J k W->xs[k]? =some x->E.R W S [u] x->Calls Tryz.prog fi (#[u]++ci) W fun e w'=>e= .returned (.bool (q k))/\J (k+1) w'):
 Calls Tryz.prog 33 #[.slice A m c,.func (.func fi) #[] ci] w fun e w'=>e= .returned (.bool ((List.range m).any q))/\∃k,J k w':=by
 have K:=q_ (idxF_any E hE q J fi ci A m c xs S w hgi hok h0 hl hq);have HN:=q_ (firstI_nonneg (m:=m) (q:=q));clear hq hl h0 hgi hok;go_enter Tryz.func33,Tryz.ntmps33;go_wp2_with fail;refine K.o.mono ?_;rintro e w2 ⟨rfl,hj⟩;have HJ:=q_ hj;clear hj;go_wp2;go_ret;exact⟨by rw[HN.o];rfl,HJ.o⟩
theorem idxR_any{α:Type}(E:Enc α)(hE:E.n=1)(q:Nat->Bool)(J:Nat->World->Prop)(fi:FuncId)(ci:Array Value)(A:Option Addr)(m c:Nat)(xs:List α)(S:Nat->Prop)(w:World)(hgi:Enters Tryz.prog fi)(hok:SOk A m c)(h0:J 0 w)(hl:∀k W,J k W->LAt E W S A m xs)(hq:∀k W x u,k<m->J k W->xs[k]? =some x->E.R W S [u] x->Calls Tryz.prog fi (#[u]++ci) W fun e w'=>e= .returned (.bool (q k))/\J (k+1) w'):
 Calls Tryz.prog 105 #[.slice A m c,.func (.func fi) #[] ci] w fun e w'=>e= .returned (.int .i64 (firstI m q))/\∃k,J k w':=by
 have hm:=hok.le;have GI:=q_ hgi;have HL:=q_ hl;have HQ:=q_ hq;have J0:=q_ h0;have gi:=fun args w=>hgi args w;clear hgi hl hq h0 hok;go_enter Tryz.func105,Tryz.ntmps105;go_wp2_with fail;go_loopw [8] (fun x wr=>∃k:Nat,k<=m/\x= .int .i64 k/\(∀j,j<k->q j=false)/\J k wr) (fun x _=>m-(intOf x).toNat)
 case atStart=>exact⟨0,by omega,rfl,fun j hj=>by omega,J0.o⟩
 case round=>
  obtain⟨k,hk,rfl,hno,hj⟩:=hrel;have gi:=GI.o;unfold Enters at gi;have NO:=q_ hno;have JK:=q_ hj;clear hno hj;by_cases hlt:k<m
  ·obtain⟨ad,x,u,rfl,hb,hx,hr,hc⟩:=(HL.o k wr JK.o).in1 hE hlt
   have C:=q_ (HQ.o k wr x u hlt JK.o hx hr);clear hx hr;go_wp2_with fail;refine C.o.mono ?_;rintro e w2 ⟨rfl,hj2⟩;have J2:=q_ hj2;clear hj2;cases ht:q k
   ·have N2:=q_ (show∀j,j<k+1->q j=false from fun j hj=>by
     rcases Nat.lt_or_ge j k with h1|h1
     ·exact NO.o j h1
     ·have:j=k:=by omega
      subst this;exact ht)
    clear ht;go_wp2;go_roundw
    case rel=>exact⟨k+1,by omega,by go_num,N2.o,J2.o⟩
    case measure=>simp[intOf];omega
   ·have HT:=q_ (firstI_hit hlt ht NO.o)
    clear ht;go_wp2;go_ret;rw[HT.o];exact⟨rfl,_,J2.o⟩
  ·have HT:=q_ (firstI_none (m:=m) (q:=q) (fun j hj=>NO.o j (by omega)))
   go_wp2;go_ret;rw[HT.o];exact⟨rfl,_,JK.o⟩
theorem hasR_any{α:Type}(E:Enc α)(hE:E.n=1)(q:Nat->Bool)(J:Nat->World->Prop)(fi:FuncId)(ci:Array Value)(A:Option Addr)(m c:Nat)(xs:List α)(S:Nat->Prop)(w:World)(hgi:Enters Tryz.prog fi)(hok:SOk A m c)(h0:J 0 w)(hl:∀k W,J k W->LAt E W S A m xs)(hq:∀k W x u,k<m->J k W->xs[k]? =some x->E.R W S [u] x->Calls Tryz.prog fi (#[u]++ci) W fun e w'=>e= .returned (.bool (q k))/\J (k+1) w'):
 Calls Tryz.prog 35 #[.slice A m c,.func (.func fi) #[] ci] w fun e w'=>e= .returned (.bool ((List.range m).any q))/\∃k,J k w':=by
 have K:=q_ (idxR_any E hE q J fi ci A m c xs S w hgi hok h0 hl hq);have HN:=q_ (firstI_nonneg (m:=m) (q:=q));clear hq hl h0 hgi hok;go_enter Tryz.func35,Tryz.ntmps35;go_wp2_with fail;refine K.o.mono ?_;rintro e w2 ⟨rfl,hj⟩;have HJ:=q_ hj;clear hj;go_wp2;go_ret;exact⟨by rw[HN.o];rfl,HJ.o⟩
theorem idxC_any{α:Type}(E:Enc α)(hE:E.n=1)(q:Nat->Bool)(J:Nat->World->Prop)(fi:FuncId)(ci:Array Value)(A:Option Addr)(m c:Nat)(xs:List α)(S:Nat->Prop)(w:World)(hgi:Enters Tryz.prog fi)(hok:SOk A m c)(h0:J 0 w)(hl:∀k W,J k W->LAt E W S A m xs)(hq:∀k W x u,k<m->J k W->xs[k]? =some x->E.R W S [u] x->Calls Tryz.prog fi (#[u]++ci) W fun e w'=>e= .returned (.bool (q k))/\J (k+1) w'):
 Calls Tryz.prog 106 #[.slice A m c,.func (.func fi) #[] ci] w fun e w'=>e= .returned (.int .i64 (firstI m q))/\∃k,J k w':=by
 have hm:=hok.le;have GI:=q_ hgi;have HL:=q_ hl;have HQ:=q_ hq;have J0:=q_ h0;have gi:=fun args w=>hgi args w;clear hgi hl hq h0 hok;go_enter Tryz.func106,Tryz.ntmps106;go_wp2_with fail;go_loopw [8] (fun x wr=>∃k:Nat,k<=m/\x= .int .i64 k/\(∀j,j<k->q j=false)/\J k wr) (fun x _=>m-(intOf x).toNat)
 case atStart=>exact⟨0,by omega,rfl,fun j hj=>by omega,J0.o⟩
 case round=>
  obtain⟨k,hk,rfl,hno,hj⟩:=hrel;have gi:=GI.o;unfold Enters at gi;have NO:=q_ hno;have JK:=q_ hj;clear hno hj;by_cases hlt:k<m
  ·obtain⟨ad,x,u,rfl,hb,hx,hr,hc⟩:=(HL.o k wr JK.o).in1 hE hlt
   have C:=q_ (HQ.o k wr x u hlt JK.o hx hr);clear hx hr;go_wp2_with fail;refine C.o.mono ?_;rintro e w2 ⟨rfl,hj2⟩;have J2:=q_ hj2;clear hj2;cases ht:q k
   ·have N2:=q_ (show∀j,j<k+1->q j=false from fun j hj=>by
     rcases Nat.lt_or_ge j k with h1|h1
     ·exact NO.o j h1
     ·have:j=k:=by omega
      subst this;exact ht)
    clear ht;go_wp2;go_roundw
    case rel=>exact⟨k+1,by omega,by go_num,N2.o,J2.o⟩
    case measure=>simp[intOf];omega
   ·have HT:=q_ (firstI_hit hlt ht NO.o)
    clear ht;go_wp2;go_ret;rw[HT.o];exact⟨rfl,_,J2.o⟩
  ·have HT:=q_ (firstI_none (m:=m) (q:=q) (fun j hj=>NO.o j (by omega)))
   go_wp2;go_ret;rw[HT.o];exact⟨rfl,_,JK.o⟩
theorem hasC_any{α:Type}(E:Enc α)(hE:E.n=1)(q:Nat->Bool)(J:Nat->World->Prop)(fi:FuncId)(ci:Array Value)(A:Option Addr)(m c:Nat)(xs:List α)(S:Nat->Prop)(w:World)(hgi:Enters Tryz.prog fi)(hok:SOk A m c)(h0:J 0 w)(hl:∀k W,J k W->LAt E W S A m xs)(hq:∀k W x u,k<m->J k W->xs[k]? =some x->E.R W S [u] x->Calls Tryz.prog fi (#[u]++ci) W fun e w'=>e= .returned (.bool (q k))/\J (k+1) w'):
 Calls Tryz.prog 37 #[.slice A m c,.func (.func fi) #[] ci] w fun e w'=>e= .returned (.bool ((List.range m).any q))/\∃k,J k w':=by
 have K:=q_ (idxC_any E hE q J fi ci A m c xs S w hgi hok h0 hl hq);have HN:=q_ (firstI_nonneg (m:=m) (q:=q));clear hq hl h0 hgi hok;go_enter Tryz.func37,Tryz.ntmps37;go_wp2_with fail;refine K.o.mono ?_;rintro e w2 ⟨rfl,hj⟩;have HJ:=q_ hj;clear hj;go_wp2;go_ret;exact⟨by rw[HN.o];rfl,HJ.o⟩
theorem idxTab_any{α:Type}(E:Enc α)(hE:E.n=2)(q:Nat->Bool)(J:Nat->World->Prop)(fi:FuncId)(ci:Array Value)(A:Option Addr)(m c:Nat)(xs:List α)(S:Nat->Prop)(w:World)(hgi:Enters Tryz.prog fi)(hok:SOk A m c)(h0:J 0 w)(hl:∀k W,J k W->LAt E W S A m xs)(hq:∀k W x u v,k<m->J k W->xs[k]? =some x->E.R W S [u,v] x->Calls Tryz.prog fi (#[.agg #[u,v]]++ci) W fun e w'=>e= .returned (.bool (q k))/\J (k+1) w'):
 Calls Tryz.prog 225 #[.slice A m c,.func (.func fi) #[] ci] w fun e w'=>e= .returned (.int .i64 (firstI m q))/\∃k,J k w':=by
 have hm:=hok.le;have GI:=q_ hgi;have HL:=q_ hl;have HQ:=q_ hq;have J0:=q_ h0;have gi:=fun args w=>hgi args w;clear hgi hl hq h0 hok;go_enter Tryz.func225,Tryz.ntmps225;go_wp2_with fail;go_loopw [8] (fun x wr=>∃k:Nat,k<=m/\x= .int .i64 k/\(∀j,j<k->q j=false)/\J k wr) (fun x _=>m-(intOf x).toNat)
 case atStart=>exact⟨0,by omega,rfl,fun j hj=>by omega,J0.o⟩
 case round=>
  obtain⟨k,hk,rfl,hno,hj⟩:=hrel;have gi:=GI.o;unfold Enters at gi;have NO:=q_ hno;have JK:=q_ hj;clear hno hj;by_cases hlt:k<m
  ·obtain⟨ad,x,u,v,rfl,hb,hx,hr,hc,hc2⟩:=(HL.o k wr JK.o).in2 hE hlt
   have C:=q_ (HQ.o k wr x u v hlt JK.o hx hr);clear hx hr;go_wp2_with fail;refine C.o.mono ?_;rintro e w2 ⟨rfl,hj2⟩;have J2:=q_ hj2;clear hj2;cases ht:q k
   ·have N2:=q_ (show∀j,j<k+1->q j=false from fun j hj=>by
     rcases Nat.lt_or_ge j k with h1|h1
     ·exact NO.o j h1
     ·have:j=k:=by omega
      subst this;exact ht)
    clear ht;go_wp2;go_roundw
    case rel=>exact⟨k+1,by omega,by go_num,N2.o,J2.o⟩
    case measure=>simp[intOf];omega
   ·have HT:=q_ (firstI_hit hlt ht NO.o)
    clear ht;go_wp2;go_ret;rw[HT.o];exact⟨rfl,_,J2.o⟩
  ·have HT:=q_ (firstI_none (m:=m) (q:=q) (fun j hj=>NO.o j (by omega)))
   go_wp2;go_ret;rw[HT.o];exact⟨rfl,_,JK.o⟩
theorem hasTab_any{α:Type}(E:Enc α)(hE:E.n=2)(q:Nat->Bool)(J:Nat->World->Prop)(fi:FuncId)(ci:Array Value)(A:Option Addr)(m c:Nat)(xs:List α)(S:Nat->Prop)(w:World)(hgi:Enters Tryz.prog fi)(hok:SOk A m c)(h0:J 0 w)(hl:∀k W,J k W->LAt E W S A m xs)(hq:∀k W x u v,k<m->J k W->xs[k]? =some x->E.R W S [u,v] x->Calls Tryz.prog fi (#[.agg #[u,v]]++ci) W fun e w'=>e= .returned (.bool (q k))/\J (k+1) w'):
 Calls Tryz.prog 133 #[.slice A m c,.func (.func fi) #[] ci] w fun e w'=>e= .returned (.bool ((List.range m).any q))/\∃k,J k w':=by
 have K:=q_ (idxTab_any E hE q J fi ci A m c xs S w hgi hok h0 hl hq);have HN:=q_ (firstI_nonneg (m:=m) (q:=q));clear hq hl h0 hgi hok;go_enter Tryz.func133,Tryz.ntmps133;go_wp2_with fail;refine K.o.mono ?_;rintro e w2 ⟨rfl,hj⟩;have HJ:=q_ hj;clear hj;go_wp2;go_ret;exact⟨by rw[HN.o];rfl,HJ.o⟩
end Go.Proofs.YtnocnbklhikmnaaGreatDoor
