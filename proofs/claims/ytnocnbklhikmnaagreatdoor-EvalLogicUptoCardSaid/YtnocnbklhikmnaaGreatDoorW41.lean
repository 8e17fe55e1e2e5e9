/- Part 41 of the proof. -/
import Derived.Test.YtnocnbklhikmnaaGreatDoorW23
import Derived.Test.YtnocnbklhikmnaaGreatDoorW29
set_option linter.unusedVariables false
set_option maxRecDepth 1000000
set_option maxHeartbeats 16000000
namespace Go.Proofs.YtnocnbklhikmnaaGreatDoor
variable{k:Nat}{l:List M.Seg}{s:M.Seg}
open Go.RowKit
def headOk(m:M.Msg):Bool:=match m.segs with
 |s::_=>match s.fields with
  |a::b::_=>M.isOne a (M.sign1 m.d)&&M.isOne b (M.sign2 m.d)
  |_=>false
 |[]=>false
def segsOk(l:List M.Seg)(k:Nat):Bool:=l.zipIdx.take k|>.all fun(s,i)=>M.segOk i s
theorem segsOk_succ(h:l[k]? =some s):segsOk l (k+1)=(segsOk l k&&M.segOk k s):=by
 unfold segsOk;rw[List.take_add_one];simp[List.getElem?_zipIdx,h,List.all_append]
theorem segsOk_zero(l:List M.Seg):segsOk l 0=true:=rfl
theorem segsOk_false(h:l[k]? =some s)(hs:M.segOk k s=false):(l.zipIdx.all fun(s,i)=>M.segOk i s)=false:=by
 rw[List.all_eq_false];exact⟨(s,k),List.mem_of_getElem? (i:=k) (by rw[List.getElem?_zipIdx,h];simp),by simp[hs]⟩
theorem segsOk_all:segsOk l l.length=l.zipIdx.all fun(s,i)=>M.segOk i s:=by
 unfold segsOk;rw[List.take_of_length_le (by simp)]
theorem valid_eq(m:M.Msg):M.valid m=(P.valid m.d.list&&decide (1<=m.segs.length)&&decide (m.segs.length<=200)&&(m.segs.zipIdx.all fun(s,i)=>M.segOk i s)&&headOk m):=rfl
theorem tValid_any(d:M.Delims)(A:Option Addr)(c:Nat)(l:List M.Seg)(S:Nat->Prop)(w:World)(hS:∀b,S b->b<w.heap.size)(hok:SOk A l.length c)(hl:LAt ESeg w S A l.length l):
 Calls Tryz.prog 5 #[.agg #[.int .u8 (d.f.toNat:Int),.int .u8 (d.c.toNat:Int),.int .u8 (d.r.toNat:Int),.int .u8 (d.e.toNat:Int),.int .u8 (d.s.toNat:Int),.slice A l.length c]] w fun e w'=>e= .returned (.bool (M.valid ⟨d,l⟩))/\Below w.heap.size w w':=by
 have HB:=q_ ((Below.refl w.heap.size w).alloc (n_) (.cells #[.int .u8 (d.f.toNat:Int),.int .u8 (d.c.toNat:Int),.int .u8 (d.r.toNat:Int),.int .u8 (d.e.toNat:Int),.int .u8 (d.s.toNat:Int),.slice A l.length c] 26));have hm:=hok.le;have HL:=q_ hl;have HS:=q_ hS;have VQ:=q_ (valid_eq ⟨d,l⟩);generalize M.valid ⟨d,l⟩=res at*;cases hv:P.valid d.list
 ·have HR:=q_ (show res=false from by rw[VQ.o];show(P.valid d.list&&_&&_&&_&&_)=false;rw[hv];rfl)
  have HV:=q_ hv;clear hv hl hS hok VQ;generalize l.length=n at*;go_enter Tryz.func5,Tryz.ntmps5;go_wp2_with fail;refine(valid_any d.f d.c d.r d.e d.s _).mono ?_
  rintro e w2 ⟨rfl,hb2⟩;rw[show P.valid [d.f,d.c,d.r,d.e,d.s]=false from HV.o];have B2:=q_ (HB.o.trans (hb2.mono HB.o.size));clear hb2;go_wp2_with fail;go_ret;exact⟨by rw[HR.o];rfl,B2.o⟩
 ·have VQ2:=q_ (show res=(decide (1<=l.length)&&decide (l.length<=200)&&(l.zipIdx.all fun(s,i)=>M.segOk i s)&&headOk ⟨d,l⟩) from by rw[VQ.o];show(P.valid d.list&&_&&_&&_&&_)=_;rw[hv];rfl)
  have HV:=q_ hv;clear hv VQ;have head:∀(b1 b2:Bool),decide ((l.length:Int)<1)=b1->decide ((200:Int)<(l.length:Int))=b2->True:=fun _ _ _ _=>trivial;by_cases h1:l.length<1
  ·have HR:=q_ (show res=false from by rw[VQ2.o,decide_eq_false (by omega)];rfl)
   have t1:decide ((l.length:Int)<1)=true:=by simp;omega
   clear h1 hl hS hok VQ2 head;generalize l.length=n at*;go_enter Tryz.func5,Tryz.ntmps5;go_wp2_with fail;refine(valid_any d.f d.c d.r d.e d.s _).mono ?_
   rintro e w2 ⟨rfl,hb2⟩;rw[show P.valid [d.f,d.c,d.r,d.e,d.s]=true from HV.o];have B2:=q_ (HB.o.trans (hb2.mono HB.o.size));obtain⟨hc,hf⟩:=bcell hb2;clear hb2;go_wp2_with fail;go_ret;exact⟨by rw[HR.o];rfl,B2.o⟩
  by_cases h2:200<l.length
  ·have HR:=q_ (show res=false from by rw[VQ2.o,decide_eq_true (show 1<=l.length by omega),decide_eq_false (show¬l.length<=200 by omega)];rfl)
   have t1:decide ((l.length:Int)<1)=false:=by simp;omega
   have t2:decide ((200:Int)<(l.length:Int))=true:=by simp;omega
   clear h1 h2 hl hS hok VQ2 head;generalize l.length=n at*;go_enter Tryz.func5,Tryz.ntmps5;go_wp2_with fail;refine(valid_any d.f d.c d.r d.e d.s _).mono ?_
   rintro e w2 ⟨rfl,hb2⟩;rw[show P.valid [d.f,d.c,d.r,d.e,d.s]=true from HV.o];have B2:=q_ (HB.o.trans (hb2.mono HB.o.size));obtain⟨hc,hf⟩:=bcell hb2;clear hb2;go_wp2_with fail;go_ret;exact⟨by rw[HR.o];rfl,B2.o⟩
  have VQ3:=q_ (show res=((l.zipIdx.all fun(s,i)=>M.segOk i s)&&headOk ⟨d,l⟩) from by rw[VQ2.o,decide_eq_true (show 1<=l.length by omega),decide_eq_true (show l.length<=200 by omega)];rfl);have t1:decide ((l.length:Int)<1)=false:=by simp;omega
  have t2:decide ((200:Int)<(l.length:Int))=false:=by simp;omega
  generalize hmm:l.length=m at*;have HM:=q_ hmm;clear hl hS hok VQ2 head hmm;go_enter Tryz.func5,Tryz.ntmps5;go_wp2_with fail;refine(valid_any d.f d.c d.r d.e d.s _).mono ?_
  rintro e w2 ⟨rfl,hb2⟩;rw[show P.valid [d.f,d.c,d.r,d.e,d.s]=true from HV.o];have B2:=q_ (HB.o.trans (hb2.mono HB.o.size));have E2:=q_ ((Blk.new w 26 #[.int .u8 (d.f.toNat:Int),.int .u8 (d.c.toNat:Int),.int .u8 (d.r.toNat:Int),.int .u8 (d.e.toNat:Int),.int .u8 (d.s.toNat:Int),.slice A m c]).below hb2 (by simp));have hc:=E2.o.cell;clear hb2;go_wp2_with fail;refine(signs2_any d _).mono ?_
  rintro e w3 ⟨rfl,hb3⟩;have E3:=q_ (E2.o.below hb3 E2.o.lt);have B3:=q_ (B2.o.trans (hb3.mono B2.o.size));clear hb3 hc E2 B2;generalize hsg1:M.sign1 d=sg1 at*;generalize hsg2:M.sign2 d=sg2 at*;have HSG:=q_ (And.intro hsg1 hsg2);clear hsg1 hsg2;have e3a:=(E3.o.alloc (.cells #[.string sg1,.string sg2] 49)).cell;go_wp2_with fail;obtain⟨w4,hw4⟩:∃w4,w4=w3.alloc (.cells #[.string sg1,.string sg2] 49):=⟨_,rfl⟩
  rw[<-hw4];have E4:=q_ (show Blk w4 w.heap.size 26 #[.int .u8 (d.f.toNat:Int),.int .u8 (d.c.toNat:Int),.int .u8 (d.r.toNat:Int),.int .u8 (d.e.toNat:Int),.int .u8 (d.s.toNat:Int),.slice A m c] from hw4▸E3.o.alloc _);have G4:=q_ (show Blk w4 w3.heap.size 49 #[.string sg1,.string sg2] from hw4▸Blk.new w3 _ _);have B4:=q_ (show Below w.heap.size w w4 from hw4▸B3.o.alloc B3.o.size _);clear hw4 E3 B3 e3a;have hE4:=E4.o.lt;have hG4:=G4.o.lt;go_loopw [29] (fun x wr=>∃k:Nat,k<=m/\x= .int .i64 k/\Below w4.heap.size w4 wr/\segsOk l k=true) (fun x _=>m-(intOf x).toNat)
  case atStart=>exact⟨0,by omega,rfl,Below.refl _ _,segsOk_zero l⟩
  case round=>
   obtain⟨k,hk,rfl,hbel,hso⟩:=hrel;have HBL:=q_ hbel;have BW:=q_ (B4.o.trans (hbel.mono B4.o.size));have HSO:=q_ hso;clear hbel hso;by_cases hlt:k<m
   ·obtain⟨ad,x,u,v,rfl,hb,hx,hr,hc1,hc2⟩:=(HL.o.below BW.o HS.o).in2 rfl hlt
    obtain⟨A1,c1,e1,hns,hok1,hl1⟩:=ESeg.inv hr;injection e1 with e1 e2;injection e2 with e2 _;subst e1 e2;have HX:=q_ hx;have HL1:=q_ hl1;have HOK:=q_ hok1;clear hr hx hl1 hok1;have kn:=fun W=>isName_any x.name W hns;have hone:=q_ (fun h=>show res=false from by rw[VQ3.o,segsOk_false HX.o h];rfl);have hseg:=q_ (show M.segOk k x=(M.isName x.name&&(M.eqT x.name M.msh==decide (k=0))&&M.fits x) from rfl);have hq:(x.name.toList==[77,83,72])=M.eqT x.name M.msh:=by simp[M.eqT,M.msh,M.T,ByteArray.toList_eq]
    have E5:=q_ (Blk.new wr 45 #[.string x.name,.slice A1 x.fields.length c1]);have B5:=q_ (BW.o.alloc BW.o.size (.cells #[.string x.name,.slice A1 x.fields.length c1] 45));cases hnm:M.isName x.name with
    |false=>
     have HR:=q_ (hone.o (by rw[hseg.o,hnm];rfl));rw[hnm] at kn;have KN:=q_ kn;clear hnm hone hseg hq kn;go_wp2_with fail;refine(KN.o _).mono ?_
     rintro e w6 ⟨rfl,hb6⟩;go_wp2_with fail;go_ret;rw[HR.o];exact⟨rfl,B5.o.trans (hb6.mono B5.o.size)⟩
    |true=>
     rw[hnm] at kn;have KN:=q_ kn;clear kn;have T5:=q_ ((Below.refl wr.heap.size wr).alloc (n_) (.cells #[.string x.name,.slice A1 x.fields.length c1] 45));obtain⟨b1,hb1⟩:∃b,b=M.eqT x.name M.msh:=⟨_,rfl⟩
     obtain⟨b2,hb2⟩:∃b,b=decide (k=0):=⟨_,rfl⟩
     have hk0:((k:Int)==0)=b2:=by
      rw[hb2];by_cases h:k=0
      ·subst h;rfl
      ·rw[decide_eq_false h,beq_eq_false_iff_ne];omega
     rw[<-hb1] at hq;have hseg2:=q_ (show M.segOk k x=((b1==b2)&&M.fits x) by rw[hseg.o,hnm,hb1,hb2];rfl);clear hnm hseg hb1 hb2;by_cases hbb:b1=b2
     ·subst hbb
      have KF:=q_ (fun W (h:Below wr.heap.size wr W)=>fits_any A1 c1 x S W (fun b hb=>Nat.lt_of_lt_of_le (HS.o b hb) (Nat.le_trans BW.o.size h.size)) HOK.o (HL1.o.below_ h (fun b hb=>Nat.lt_of_lt_of_le (HS.o b hb) BW.o.size)));cases hft:M.fits x with
      |false=>
       have HR:=q_ (hone.o (by rw[hseg2.o,hft,Bool.and_false]));rw[hft] at KF;clear hft hone hseg2;cases b1
       all_goals
        go_wp2_with fail;refine(KN.o _).mono ?_
        rintro e w6 ⟨rfl,hb6⟩;have c6:=(E5.o.below hb6 E5.o.lt).cell;have T6:=q_ (T5.o.trans (hb6.mono T5.o.size));have B6:=q_ (B5.o.trans (hb6.mono B5.o.size));have KF6:=KF.o w6 T6.o;clear hb6;go_wp2_with fail;refine KF6.mono ?_;rintro e w7 ⟨rfl,hb7⟩;have B7:=q_ (B6.o.trans (hb7.mono B6.o.size));clear hb7;go_wp2_with fail;go_ret;rw[HR.o];exact⟨rfl,B7.o⟩
      |true=>
       have HS2:=q_ (show segsOk l (k+1)=true by rw[segsOk_succ HX.o,HSO.o,hseg2.o,hft];simp);rw[hft] at KF;clear hft hone hseg2;cases b1
       all_goals
        go_wp2_with fail;refine(KN.o _).mono ?_
        rintro e w6 ⟨rfl,hb6⟩;have c6:=(E5.o.below hb6 E5.o.lt).cell;have T6:=q_ (T5.o.trans (hb6.mono T5.o.size));have KF6:=KF.o w6 T6.o;clear hb6;go_wp2_with fail;refine KF6.mono ?_;rintro e w7 ⟨rfl,hb7⟩;have T7:=q_ (HBL.o.trans ((T6.o.trans (hb7.mono T6.o.size)).mono HBL.o.size));clear hb7;go_wp2_with fail;go_roundw
        case rel=>exact⟨k+1,by omega,by go_num,T7.o,HS2.o⟩
        case measure=>simp[intOf];omega
     ·have HR:=q_ (hone.o (by rw[hseg2.o,(beq_eq_false_iff_ne).2 hbb];rfl))
      have hbn:b2= !b1:=by cases b1<;>cases b2<;>simp_all
      subst hbn;clear hbb hone hseg2;cases b1
      all_goals
       simp only[Bool.not_false,Bool.not_true] at hk0;go_wp2_with fail;refine(KN.o _).mono ?_
       rintro e w6 ⟨rfl,hb6⟩;have c6:=(E5.o.below hb6 E5.o.lt).cell;go_wp2_with fail;go_ret;rw[HR.o];exact⟨rfl,B5.o.trans (hb6.mono B5.o.size)⟩
   ·obtain rfl:k=m:=by omega
    have HH0:=q_ (show res=headOk ⟨d,l⟩ by rw[VQ3.o,<-segsOk_all,HM.o,HSO.o,Bool.true_and]);have e4:=(E4.o.below HBL.o hE4).cell;obtain⟨ad,x,u,v,rfl,hb,hx,hr,hc1,hc2⟩:=(HL.o.below BW.o HS.o).in2 rfl (show 0<k by omega);obtain⟨A1,c1,e1,hns,hok1,hl1⟩:=ESeg.inv hr;injection e1 with e1 e2;injection e2 with e2 _;subst e1 e2;have had:ad.add 0=ad:=by unfold Addr.add;rw[if_pos rfl]
    rw[Nat.zero_mul,had] at hc1 hc2;have HL1:=q_ hl1;have HOK:=q_ hok1
    have HH:=q_ (show res=match x.fields with|a::b::_=>M.isOne a (M.sign1 d)&&M.isOne b (M.sign2 d)|_=>false by
     rw[HH0.o];cases l with
     |nil=>cases hx
     |cons y l=>
      simp at hx;subst hx;rfl)
    have hkpos:0<k:=by omega
    have hk1:=hok1.1;have hk2:=hok1.2.1;have hk3:=hok1.2.2.2;clear hr hx hl1 hok1 HH0 HSO HM HL VQ3 hns;obtain⟨nm,fs⟩:=x;simp only at*;cases fs with
    |nil=>
     go_wp2_with fail;refine wp_region_free 20 [] Stays (fun _=>none) (by kernel_rfl) (by kernel_rfl) Stays.refl (by simp) (Stays.draw _) Stays.trans (fun j φ v x y hB=>by cases hB) ?_
     iterate 20
      apply wpFree_pure rfl rfl
      ·intro vs wx hk K hK
       go_simp;exact hK _ (Stays.refl _)
      intro KK hKK;go_simp;refine hKK _ ?_;clear hKK KK
     refine wpFree_nil ?_;intro vs w5 hs5 _;intro KK hKK;simp only[List.drop_succ_cons,List.drop_nil];go_wp2_with fail;go_ret;exact⟨by rw[HH.o];rfl,BW.o.trans (Below.mono hs5 BW.o.size)⟩
    |cons a fs=>
     cases fs with
     |nil=>
      go_wp2_with fail;refine wp_region_free 20 [] Stays (fun _=>none) (by kernel_rfl) (by kernel_rfl) Stays.refl (by simp) (Stays.draw _) Stays.trans (fun j φ v x y hB=>by cases hB) ?_
      iterate 20
       apply wpFree_pure rfl rfl
       ·intro vs wx hk K hK
        go_simp;exact hK _ (Stays.refl _)
       intro KK hKK;go_simp;refine hKK _ ?_;clear hKK KK
      refine wpFree_nil ?_;intro vs w5 hs5 _;intro KK hKK;simp only[List.drop_succ_cons,List.drop_nil];go_wp2_with fail;go_ret;exact⟨by rw[HH.o];rfl,BW.o.trans (Below.mono hs5 BW.o.size)⟩
     |cons b r=>
      obtain⟨ad1,a',u0,rfl,hb0,ha',hr0,hc0⟩:=HL1.o.in1 rfl (show 0<(a::b::r).length by simp);obtain⟨ad1',b',u1,e',hb1,hb',hr1,hc1'⟩:=HL1.o.in1 rfl (show 1<(a::b::r).length by simp);cases e';simp at ha' hb';subst ha' hb';obtain⟨Aa,ca,rfl,hoka,hla⟩:=Enc.list_inv hr0;obtain⟨Ab,cb,rfl,hokb,hlb⟩:=Enc.list_inv hr1;have hSw:∀b,S b->b<wr.heap.size:=fun b hb=>Nat.lt_of_lt_of_le (HS.o b hb) BW.o.size;have hadd:ad1.add 0=ad1:=by unfold Addr.add;rw[if_pos rfl]
      have hadd1:ad1.add 1=⟨ad1.block,ad1.off+1,none⟩:=by unfold Addr.add;rw[if_neg (by omega)]
      rw[hadd] at hc0;rw[hadd1] at hc1';have W0:=q_ (fun(W:World) (h:Stays wr W)=>And.intro ((Below.cell h (p:=ad1) (hSw _ hb0)).trans hc0) ((Below.cell h (p:=⟨ad1.block,ad1.off+1,none⟩) (hSw _ hb0)).trans hc1'));have k0:=fun(W:World) (h:Stays wr W)=>isA_any Aa ca a sg1 S W hoka (hla.below_ h hSw);have k1:=fun(W:World) (h:Stays wr W)=>isA_any Ab cb b sg2 S W hokb (hlb.below_ h hSw);have hh:=HH.o;simp only[HSG.o.1,HSG.o.2] at hh;clear HH hr0 hr1 hla hlb hc0 hc1' HL1 HOK;have hn2:2<=(a::b::r).length:=by simp
      generalize (a::b::r).length=n2 at*;have q2:decide ((2:Int)<=(n2:Int))=true:=by simp;omega
      have p0:0<n2:=by omega
      have p1:(1:Int)<(n2:Int):=by omega
      cases hi0:M.isOne a sg1 with
      |false=>
       rw[hi0] at k0 hh;have K0:=q_ k0;have HH:=q_ hh;clear hi0 k0 k1 hh;go_wp2_with fail;refine wp_region_free 20 [] Stays (fun _=>none) (by kernel_rfl) (by kernel_rfl) Stays.refl (by simp) (Stays.draw _) Stays.trans (fun j φ v x y hB=>by cases hB) ?_
       iterate 6
        apply wpFree_pure rfl rfl
        ·intro vs wx hk K hK
         go_simp;exact hK _ (Stays.refl _)
        intro KK hKK;go_simp;refine hKK _ ?_;clear hKK KK
       apply wpFree_pure rfl rfl
       ·intro vs wx hk K hK
        have c0:=(W0.o wx hk.1).1;go_simp;exact hK _ (Stays.refl _)
       intro KK hKK;go_simp;refine hKK _ ?_;clear hKK KK;apply wpFree_pure rfl rfl
       ·intro vs wx hk K hK
        go_simp;exact hK _ (Stays.refl _)
       intro KK hKK;go_simp;refine hKK _ ?_;clear hKK KK;apply wpFree_pure rfl rfl
       ·intro vs wx hk K hK
        have g:=((G4.o.below HBL.o hG4).stays hk.1).cell;go_simp;exact hK _ (Stays.refl _)
       intro KK hKK;go_simp;refine hKK _ ?_;clear hKK KK;apply wpFree_pure rfl rfl
       ·intro vs wx hk K hK
        have CC:=K0.o wx hk.1;go_simp
        first
         |exact hK _ (Stays.refl _)
         |exact Calls.free hK (CC.mono fun e w' ⟨he,hw'⟩=>⟨he,hw'▸Stays.refl _⟩)
       intro KK hKK;go_simp;refine hKK _ ?_;clear hKK KK
       iterate 10
        apply wpFree_pure rfl rfl
        ·intro vs wx hk K hK
         go_simp;exact hK _ (Stays.refl _)
        intro KK hKK;go_simp;refine hKK _ ?_;clear hKK KK
       refine wpFree_nil ?_;intro vs w5 hs5 _;intro KK hKK;simp only[List.drop_succ_cons,List.drop_nil];go_wp2_with fail;go_ret;exact⟨by rw[HH.o];rfl,BW.o.trans (Below.mono hs5 BW.o.size)⟩
      |true=>
       rw[hi0] at k0 hh;have K0:=q_ k0;clear hi0 k0;cases hi1:M.isOne b sg2 with
       |false=>
        rw[hi1] at k1 hh;have K1:=q_ k1;have HH:=q_ hh;clear hi1 k1 hh;go_wp2_with fail;refine wp_region_free 20 [] Stays (fun _=>none) (by kernel_rfl) (by kernel_rfl) Stays.refl (by simp) (Stays.draw _) Stays.trans (fun j φ v x y hB=>by cases hB) ?_
        iterate 6
         apply wpFree_pure rfl rfl
         ·intro vs wx hk K hK
          go_simp;exact hK _ (Stays.refl _)
         intro KK hKK;go_simp;refine hKK _ ?_;clear hKK KK
        apply wpFree_pure rfl rfl
        ·intro vs wx hk K hK
         have c0:=(W0.o wx hk.1).1;go_simp;exact hK _ (Stays.refl _)
        intro KK hKK;go_simp;refine hKK _ ?_;clear hKK KK;apply wpFree_pure rfl rfl
        ·intro vs wx hk K hK
         go_simp;exact hK _ (Stays.refl _)
        intro KK hKK;go_simp;refine hKK _ ?_;clear hKK KK;apply wpFree_pure rfl rfl
        ·intro vs wx hk K hK
         have g:=((G4.o.below HBL.o hG4).stays hk.1).cell;go_simp;exact hK _ (Stays.refl _)
        intro KK hKK;go_simp;refine hKK _ ?_;clear hKK KK;apply wpFree_pure rfl rfl
        ·intro vs wx hk K hK
         have CC:=K0.o wx hk.1;go_simp
         first
          |exact hK _ (Stays.refl _)
          |exact Calls.free hK (CC.mono fun e w' ⟨he,hw'⟩=>⟨he,hw'▸Stays.refl _⟩)
        intro KK hKK;go_simp;refine hKK _ ?_;clear hKK KK
        iterate 4
         apply wpFree_pure rfl rfl
         ·intro vs wx hk K hK
          go_simp;exact hK _ (Stays.refl _)
         intro KK hKK;go_simp;refine hKK _ ?_;clear hKK KK
        apply wpFree_pure rfl rfl
        ·intro vs wx hk K hK
         have c0:=(W0.o wx hk.1).2;go_simp;exact hK _ (Stays.refl _)
        intro KK hKK;go_simp;refine hKK _ ?_;clear hKK KK;apply wpFree_pure rfl rfl
        ·intro vs wx hk K hK
         go_simp;exact hK _ (Stays.refl _)
        intro KK hKK;go_simp;refine hKK _ ?_;clear hKK KK;apply wpFree_pure rfl rfl
        ·intro vs wx hk K hK
         have g:=((G4.o.below HBL.o hG4).stays hk.1).cell;go_simp;exact hK _ (Stays.refl _)
        intro KK hKK;go_simp;refine hKK _ ?_;clear hKK KK;apply wpFree_pure rfl rfl
        ·intro vs wx hk K hK
         have CC:=K1.o wx hk.1;go_simp
         first
          |exact hK _ (Stays.refl _)
          |exact Calls.free hK (CC.mono fun e w' ⟨he,hw'⟩=>⟨he,hw'▸Stays.refl _⟩)
        intro KK hKK;go_simp;refine hKK _ ?_;clear hKK KK
        iterate 2
         apply wpFree_pure rfl rfl
         ·intro vs wx hk K hK
          go_simp;exact hK _ (Stays.refl _)
         intro KK hKK;go_simp;refine hKK _ ?_;clear hKK KK
        refine wpFree_nil ?_;intro vs w5 hs5 _;intro KK hKK;simp only[List.drop_succ_cons,List.drop_nil];go_wp2_with fail;go_ret;exact⟨by rw[HH.o];rfl,BW.o.trans (Below.mono hs5 BW.o.size)⟩
       |true=>
        rw[hi1] at k1 hh;have K1:=q_ k1;have HH:=q_ hh;clear hi1 k1 hh;go_wp2_with fail;refine wp_region_free 20 [] Stays (fun _=>none) (by kernel_rfl) (by kernel_rfl) Stays.refl (by simp) (Stays.draw _) Stays.trans (fun j φ v x y hB=>by cases hB) ?_
        iterate 6
         apply wpFree_pure rfl rfl
         ·intro vs wx hk K hK
          go_simp;exact hK _ (Stays.refl _)
         intro KK hKK;go_simp;refine hKK _ ?_;clear hKK KK
        apply wpFree_pure rfl rfl
        ·intro vs wx hk K hK
         have c0:=(W0.o wx hk.1).1;go_simp;exact hK _ (Stays.refl _)
        intro KK hKK;go_simp;refine hKK _ ?_;clear hKK KK;apply wpFree_pure rfl rfl
        ·intro vs wx hk K hK
         go_simp;exact hK _ (Stays.refl _)
        intro KK hKK;go_simp;refine hKK _ ?_;clear hKK KK;apply wpFree_pure rfl rfl
        ·intro vs wx hk K hK
         have g:=((G4.o.below HBL.o hG4).stays hk.1).cell;go_simp;exact hK _ (Stays.refl _)
        intro KK hKK;go_simp;refine hKK _ ?_;clear hKK KK;apply wpFree_pure rfl rfl
        ·intro vs wx hk K hK
         have CC:=K0.o wx hk.1;go_simp
         first
          |exact hK _ (Stays.refl _)
          |exact Calls.free hK (CC.mono fun e w' ⟨he,hw'⟩=>⟨he,hw'▸Stays.refl _⟩)
        intro KK hKK;go_simp;refine hKK _ ?_;clear hKK KK
        iterate 4
         apply wpFree_pure rfl rfl
         ·intro vs wx hk K hK
          go_simp;exact hK _ (Stays.refl _)
         intro KK hKK;go_simp;refine hKK _ ?_;clear hKK KK
        apply wpFree_pure rfl rfl
        ·intro vs wx hk K hK
         have c0:=(W0.o wx hk.1).2;go_simp;exact hK _ (Stays.refl _)
        intro KK hKK;go_simp;refine hKK _ ?_;clear hKK KK;apply wpFree_pure rfl rfl
        ·intro vs wx hk K hK
         go_simp;exact hK _ (Stays.refl _)
        intro KK hKK;go_simp;refine hKK _ ?_;clear hKK KK;apply wpFree_pure rfl rfl
        ·intro vs wx hk K hK
         have g:=((G4.o.below HBL.o hG4).stays hk.1).cell;go_simp;exact hK _ (Stays.refl _)
        intro KK hKK;go_simp;refine hKK _ ?_;clear hKK KK;apply wpFree_pure rfl rfl
        ·intro vs wx hk K hK
         have CC:=K1.o wx hk.1;go_simp
         first
          |exact hK _ (Stays.refl _)
          |exact Calls.free hK (CC.mono fun e w' ⟨he,hw'⟩=>⟨he,hw'▸Stays.refl _⟩)
        intro KK hKK;go_simp;refine hKK _ ?_;clear hKK KK
        iterate 2
         apply wpFree_pure rfl rfl
         ·intro vs wx hk K hK
          go_simp;exact hK _ (Stays.refl _)
         intro KK hKK;go_simp;refine hKK _ ?_;clear hKK KK
        refine wpFree_nil ?_;intro vs w5 hs5 _;intro KK hKK;simp only[List.drop_succ_cons,List.drop_nil];go_wp2_with fail;go_ret;exact⟨by rw[HH.o];rfl,BW.o.trans (Below.mono hs5 BW.o.size)⟩
end Go.Proofs.YtnocnbklhikmnaaGreatDoor
