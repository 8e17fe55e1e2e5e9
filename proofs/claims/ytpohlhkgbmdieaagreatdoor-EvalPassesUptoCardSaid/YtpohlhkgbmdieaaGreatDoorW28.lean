/- Part 28 of the proof. -/
import Derived.Test.YtpohlhkgbmdieaaGreatDoorW27
set_option linter.unusedVariables false
set_option maxRecDepth 1000000
set_option maxHeartbeats 16000000
namespace Go.Proofs.YtpohlhkgbmdieaaGreatDoor
open Go Go.RowKit Go.BigFrame
theorem ED(d:M.bR)(A:Option Addr)(c:Nat)(l:List M.Seg)(aN:ByteArray)(aP:Int)(aR rep comp sub:Nat)(S:Nat->Prop)(w:World)(hS:∀b,S b->b<w.heap.size)(aI:bX A l.length c)(hl:bn aX w S A l.length l)(hp:(⟨aN,aP,aR,rep,comp,sub⟩:M.Path).jd):
 Calls Tryz.prog 125 #[.agg #[.int .u8 (d.f.toNat:Int),.int .u8 (d.c.toNat:Int),.int .u8 (d.r.toNat:Int),.int .u8 (d.e.toNat:Int),.int .u8 (d.s.toNat:Int),.slice A l.length c],.agg #[.string aN,.int .i64 aP,.int .i64 (aR:Nat),.int .i64 (rep:Nat),.int .i64 (comp:Nat),.int .i64 (sub:Nat)]] w (bm w (M.asked ⟨d,l⟩ ⟨aN,aP,aR,rep,comp,sub⟩ true) (M.qR ⟨d,l⟩ ⟨aN,aP,aR,rep,comp,sub⟩)):=by
 have hm:=aI.le;obtain⟨w1,bu⟩:∃w1,w1=w.alloc (.cells #[.int .u8 (d.f.toNat:Int),.int .u8 (d.c.toNat:Int),.int .u8 (d.r.toNat:Int),.int .u8 (d.e.toNat:Int),.int .u8 (d.s.toNat:Int),.slice A l.length c] 27):=⟨_,rfl⟩
 obtain⟨w2,hw2⟩:∃w2,w2=w1.alloc (.cells #[.string aN,.int .i64 aP,.int .i64 (aR:Nat),.int .i64 (rep:Nat),.int .i64 (comp:Nat),.int .i64 (sub:Nat)] 127):=⟨_,rfl⟩
 obtain⟨w3,hw3⟩:∃w3,w3=w2.alloc (.cells #[.int .u8 0,.int .u8 0,.int .u8 0,.int .u8 0,.int .u8 0,.slice none 0 0] 27):=⟨_,rfl⟩
 have s1:w1.heap.size=w.heap.size+1:=by rw[bu];simp
 have s2:w2.heap.size=w.heap.size+2:=by rw[hw2];simp[s1]
 have s3:w3.heap.size=w.heap.size+3:=by rw[hw3];simp[s2]
 have X1:=q_ (show ar w3 w.heap.size 27 #[.int .u8 (d.f.toNat:Int),.int .u8 (d.c.toNat:Int),.int .u8 (d.r.toNat:Int),.int .u8 (d.e.toNat:Int),.int .u8 (d.s.toNat:Int),.slice A l.length c] by rw[hw3,hw2,bu];exact((ar.new w _ _).alloc _).alloc _);have X2:=q_ (show ar w3 (w.heap.size+1) 127 #[.string aN,.int .i64 aP,.int .i64 (aR:Nat),.int .i64 (rep:Nat),.int .i64 (comp:Nat),.int .i64 (sub:Nat)] by rw[hw3,hw2];exact s1▸(ar.new w1 _ _).alloc _);have X3:=q_ (show ar w3 (w.heap.size+2) 27 #[.int .u8 0,.int .u8 0,.int .u8 0,.int .u8 0,.int .u8 0,.slice none 0 0] by rw[hw3];exact s2▸ar.new w2 _ _);have B3:=q_ (show Below w.heap.size w w3 by rw[hw3,hw2,bu];exact(((Below.refl _ w).alloc (n_) _).alloc (by simp) _).alloc (by simp;omega) _);have HL:=q_ hl;have HS:=q_ hS;have HP:=q_ hp;have KA:=q_ (fun(W:World) (h:Below w.heap.size w W)=>yM d A c l ⟨aN,aP,aR,rep,comp,sub⟩ true S W (fun b hb=>l_ (HS.o b hb) h.size) aI (HL.o.below h HS.o) hp)
 have KL:=q_ (fun(W:World) (h:Below w.heap.size w W)=>clone_any cloneIG aX rfl A l.length c l S W (fun b hb=>l_ (HS.o b hb) h.size) aI (HL.o.below h HS.o));have KG:=q_ (fun(W:World) (h:Below w.heap.size w W)=>Az d A c l ⟨aN,aP,aR,rep,comp,sub⟩ S W (fun b hb=>l_ (HS.o b hb) h.size) aI (HL.o.below h HS.o) hp);have HM:=q_ (show M.qR ⟨d,l⟩ ⟨aN,aP,aR,rep,comp,sub⟩=M.canon ⟨d,if M.at0 l aN aP<0 then l else if(aR:Int)=0 then l.eraseIdx (M.at0 l aN aP).toNat else if(M.get ⟨d,l⟩ ⟨aN,aP,aR,rep,comp,sub⟩).data.toList.isEmpty=true then l else l.modify (M.at0 l aN aP).toNat (M.kp ⟨aN,aP,aR,rep,comp,sub⟩ ByteArray.empty)⟩ from rfl);generalize Qe:M.asked ⟨d,l⟩ ⟨aN,aP,aR,rep,comp,sub⟩ true=ea at*;generalize Yy:M.get ⟨d,l⟩ ⟨aN,aP,aR,rep,comp,sub⟩=gv at*;have Ya:=q_ Qe;clear hl hS aI hp Qe Yy;have z1:=X1.o.cell;have z2:=X2.o.cell;go_enter Tryz.func125,Tryz.ntmps125;go_wp2_with fail;rw[<-bu,<-hw2,<-hw3];clear bu hw2 hw3;refine(KA.o _ B3.o).mono ?_
 rintro e w5 ⟨rfl,cT⟩;have B5:=q_ (B3.o.trans (cT.mono B3.o.size));have V1:=q_ (X1.o.below cT (by omega));have V2:=q_ (X2.o.below cT (by omega));have V3:=q_ (X3.o.below cT (by omega));have s5:w.heap.size+3<=w5.heap.size:=by have:=cT.size;omega
 clear cT z1 z2;have z1:=V1.o.cell;have z2:=V2.o.cell;by_cases L3:ea=0;rotate_left
 ·have q1:(ea !=0)=true:=by simp[L3]
  go_wp2_with (refine ah (cs':=#[.int .u8 0,.int .u8 0,.int .u8 0,.int .u8 0,.int .u8 0,.slice none 0 0]) rfl 27 (.tmp 4) (.tmp 14) rfl (w.heap.size+2) (by rfl) (by rfl) V3.o rfl (by kernel_rfl) (by simp[Value.oneCell']) ?_;intro w9 k9 g9;have K9:=q_ k9;have B9:=q_ (ai B5.o g9 (by omega));clear k9 g9)
  (try simp only[Exit.inBlock,Exit.then]);exact bodyPost_ret (eH rfl K9.o rfl rfl rfl) rfl (bm.err L3 rfl B9.o)
 have q1:(ea !=0)=false:=by simp[L3]
 have ZQ:M.bM ⟨aN,aP,aR,rep,comp,sub⟩=true:=by
  have h1:=Ya.o;rw[L3] at h1;unfold M.asked at h1;split at h1
  ·cases h1
  ·split at h1
   ·cases h1
   ·next Gy=>
    have h2:M.may ⟨aN,aP,aR,rep,comp,sub⟩ true=true:=by simpa using Gy
    unfold M.may at h2;simp only[Bool.and_eq_true] at h2;exact h2.1.1
 have dr:(aR=0\/(1<=aR/\aR<=200))/\(aR≠0->(1<=rep/\rep<=200)/\(1<=comp/\comp<=200)/\(1<=sub/\sub<=200)):=by
  have h1:=ZQ;unfold M.bM M.CO at h1;simp only[Bool.and_eq_true,Bool.or_eq_true,decide_eq_true_eq] at h1;omega
 have Yb:=q_ dr;clear ZQ dr;subst L3;go_wp2_with fail
 refine aO 7 [] aj (fun
  |4=>some fun u w'=>∃A2 c2,u= .slice A2 l.length c2/\aD aX 48 w' w5.heap.size S (.slice A2 l.length c2) l
  |5=>some fun u w'=>∃A2 c2,u= .agg #[.int .u8 (d.f.toNat:Int),.int .u8 (d.c.toNat:Int),.int .u8 (d.r.toNat:Int),.int .u8 (d.e.toNat:Int),.int .u8 (d.s.toNat:Int),.slice A2 l.length c2]/\aD aX 48 w' w5.heap.size S (.slice A2 l.length c2) l
  |6=>some fun u w'=>∃g,u= .pointer (some ⟨g,0,none⟩)/\w5.heap.size<=g/\ar w' g 27 #[.int .u8 0,.int .u8 0,.int .u8 0,.int .u8 0,.int .u8 0,.slice none 0 0]
  |_=>none) (by kernel_rfl) (by kernel_rfl) aj.refl (by simp) (aj.draw _) aj.trans ?_ ?_
 ·intro j φ u x y hB hp jK
  split at hB<;>cases hB
  ·obtain⟨A2,c2,e,ho⟩:=hp
   exact⟨A2,c2,e,ho.below jK⟩
  ·obtain⟨A2,c2,e,ho⟩:=hp
   exact⟨A2,c2,e,ho.below jK⟩
  ·obtain⟨g,e,dS,hk⟩:=hp
   exact⟨g,e,dS,hk.stays jK⟩
 iterate 4
  apply au rfl rfl
  ·intro vs wx hk K hK
   have c0:=fun i=>(V1.o.stays hk.1).cell i;go_simp;exact hK _ (aj.refl _)
  intro KK af;go_simp;refine af _ ?_;clear af KK
 refine bp rfl ?_ ?_
 ·intro vs wx hk K hK
  have C:=KL.o wx (Kn B5.o hk.1);go_simp;exact C.mono fun x w' ⟨v,hx,ho,hb⟩=>by obtain⟨A2,c2,rfl⟩:=ho.shape;exact⟨_,hx,hK _ _ hb ⟨A2,c2,rfl,ho.base hk.1.size⟩⟩
 intro KK af;go_simp;refine af _ ?_;clear af KK;refine bp rfl ?_ ?_
 ·intro vs wx hk K hK
  obtain⟨A2,c2,e,ho⟩:=hk.2 4 _ rfl (by kernel_rfl);go_simp;exact hK _ _ (aj.refl _) ⟨A2,c2,rfl,ho⟩
 intro KK af;go_simp;refine af _ ?_;clear af KK;refine bp rfl ?_ ?_
 ·intro vs wx hk K hK
  go_simp;exact hK _ _ (aj.alloc _ _) ⟨_,rfl,hk.1.size,ar.new _ _ _⟩
 intro KK af;go_simp;refine af _ ?_;clear af KK;refine bg ?_;intro vs w6 jL Hw;obtain⟨A2,c2,e5,ud⟩:=Hw 5 _ (by omega) rfl;obtain⟨g,e6,jaQ,oH⟩:=Hw 6 _ (by omega) rfl;intro KK af;rw[e5,e6];have B6:=q_ (Kn B5.o jL);have U1:=q_ (V1.o.stays jL);have U2:=q_ (V2.o.stays jL);have U3:=q_ (V3.o.stays jL);have O6:=q_ ud;have Qf:=q_ oH;have s6:=jL.size;have Ec:(Value.slice A2 l.length c2).ownBlock≠some g:=fun e=>aD.fV O6.o Qf.o (by decide) e;have Be:¬S g:=fun h=>by have:=HS.o _ h;omega
 clear jL Hw e5 e6 ud oH z1 z2;simp only[List.drop_succ_cons];refine ah (cs':=#[.int .u8 (d.f.toNat:Int),.int .u8 (d.c.toNat:Int),.int .u8 (d.r.toNat:Int),.int .u8 (d.e.toNat:Int),.int .u8 (d.s.toNat:Int),.slice A2 l.length c2]) rfl 27 (.tmp 7) (.tmp 21) rfl g (by rfl) (by rfl) Qf.o rfl (by kernel_rfl) (by simp[Value.oneCell']) ?_;intro w7 k7 g7;have K7:=q_ k7;have O7:=q_ ((O6.o.aK g7 Ec Be).base (show w.heap.size<=w5.heap.size by omega));have T1:=q_ (U1.o.aK g7 (by omega));have T2:=q_ (U2.o.aK g7 (by omega));have T3:=q_ (U3.o.aK g7 (by omega));have B7:=q_ (ai B6.o g7 (by omega));have s7:w5.heap.size<=w7.heap.size:=by have:=g7.size;omega
 clear k7 g7;have z2:=T2.o.cell;have z7:=K7.o.cell;obtain⟨ly,sr⟩:=O7.o.oh hm;have SI:=q_ (uX d A2 c2 l aN aP _ w7 (fun b h=>h.elim (O7.o.there b) (fun h=>(O7.o.aJ h).2)) ly sr ⟨HP.o.2.1.1,HP.o.2.1.2⟩);clear ly sr;go_wp2_with fail;refine SI.o.mono ?_;rintro e wB ⟨rfl,js⟩;have BB:=q_ (B7.o.trans (js.mono B7.o.size));have KB:=q_ (K7.o.below js K7.o.lt);have OB:=q_ (O7.o.below js);have QB1:=q_ (T1.o.below js T1.o.lt);have SJ:=q_ (T2.o.below js T2.o.lt);have Mc:=q_ (T3.o.below js T3.o.lt);have sB:=js.size;clear js SI z2 z7;have zB:=KB.o.cell;have z2:=SJ.o.cell;have z1:=QB1.o.cell;by_cases LW:M.at0 l aN aP<0
 ·have q2:decide (M.at0 l aN aP<0)=true:=by simp[LW]
  skip
  obtain⟨jC,gQ⟩:=OB.o.oh (by exact hm);have xG:=eP d _ _ _ _ wB jC gQ (fun b h=>h.elim (OB.o.there b) (fun h=>(OB.o.aJ h).2));have Qk:=q_ (show M.qR ⟨d,l⟩ ⟨aN,aP,aR,rep,comp,sub⟩=M.canon ⟨d,l⟩ by rw[HM.o,if_pos LW])
  skip
  clear jC gQ;go_wp2_with fail;refine xG.mono ?_;rintro e wE ⟨A7,c7,rfl,mo,Ee,gW⟩;have BE:=q_ (BB.o.trans (gW.mono BB.o.size));have Ql:=q_ (Mc.o.below gW Mc.o.lt);have Qm:=q_ mo;have Qn:=q_ Ee;have sE:=gW.size;clear mo Ee gW xG;go_wp2_with (refine ah (cs':=#[.int .u8 (d.f.toNat:Int),.int .u8 (d.c.toNat:Int),.int .u8 (d.r.toNat:Int),.int .u8 (d.e.toNat:Int),.int .u8 (d.s.toNat:Int),.slice A7 (M.canon ⟨d,l⟩).aH.length c7]) rfl 27 (.tmp 4) (.tmp 61) rfl (w.heap.size+2) (by rfl) (by rfl) Ql.o rfl (by kernel_rfl) (by simp[Value.oneCell']) ?_;intro wF kF gF;have KF:=q_ kF;have GF:=q_ gF;clear kF gF)
  (try simp only[Exit.inBlock,Exit.then]);refine bodyPost_ret (eH rfl KF.o rfl rfl rfl) rfl ?_;rw[Qk.o];exact bm.ok ⟨A7,c7,rfl,Qm.o,Qn.o.keep (fun b hb=>⟨by have:=hb.1;have:=BB.o.size;omega,by have:=hb.2;have:=GF.o.size;omega⟩) (fun p hp=>World.cell?_of_block (GF.o.block _ hp.2 (fun e=>by injection e with e;have:=hp.1;omega))),ai BE.o GF.o (by omega)⟩
 have q2:decide (M.at0 l aN aP<0)=false:=by simp;omega
 obtain⟨j,hj,hat⟩:∃j:Nat,j<l.length/\M.at0 l aN aP=(j:Int):=(yn l aN aP).resolve_left (by omega);have Uw:=q_ hat;rw[hat] at q2⊢;clear hat LW
 obtain⟨g3,pW,hv3⟩:∃g3 pW,Value.slice A2 l.length c2= .slice (some ⟨g3,0,none⟩) l.length pW:=by
  rcases OB.o.form with⟨_,e⟩|⟨g3,pW,e,_⟩
  ·rw[e] at hj;simp at hj
  ·exact⟨g3,pW,e⟩
 injection hv3 with e1 _ e3;subst e1 e3;have hg3:=OB.o.aJ (g:=g3) rfl;have Hy:g3≠g:=fun e=>by subst e;exact aD.fV OB.o KB.o (by decide) rfl
 have Mb:g3≠w.heap.size+2:=fun e=>aD.fV OB.o Mc.o (by decide) (congrArg some e);have hg31:g3≠w.heap.size+1:=fun e=>aD.fV OB.o SJ.o (by decide) (congrArg some e);by_cases h0:aR=0
 ·have q3:((aR:Int)==0)=true:=by simp[h0]
  have KD:=q_ (Ra g3 l.length c2 j l w.heap.size S wB OB.o hj hm);have HF0:=q_ (show(aR:Int)=0 by omega);clear h0;go_wp2_with fail;refine KD.o.mono ?_;rintro e wC ⟨rfl,hoC,hgC⟩;have OC:=q_ hoC;have Ux:=q_ (KB.o.grown hgC (fun e=>by injection e with e;exact Hy e.symm));have Uy:=q_ (Mc.o.grown hgC (fun e=>by injection e with e;exact Mb e.symm));have BC:=q_ (ai BB.o hgC hg3.1);have sC:=hgC.size;have hle:(l.eraseIdx j).length=l.length-1:=by rw[List.length_eraseIdx,if_pos hj]
  clear hoC hgC zB;go_wp2_with (refine bY rfl 25 (.tmp 41) (.tmp 40) rfl g 5 (.slice (some ⟨g3,0,none⟩) (l.length-1) c2) (by rfl) (by rfl) Ux.o (by simp) (by kernel_rfl) (by rfl) ?_;intro wD kD gD;have KD_:=q_ (show ar wD g 27 #[.int .u8 (d.f.toNat:Int),.int .u8 (d.c.toNat:Int),.int .u8 (d.r.toNat:Int),.int .u8 (d.e.toNat:Int),.int .u8 (d.s.toNat:Int),.slice (some ⟨g3,0,none⟩) (l.length-1) c2] from kD);have OD:=q_ (OC.o.aK gD (fun e=>by simp[Value.ownBlock] at e;exact Hy e) Be);have Qi:=q_ (Uy.o.aK gD (by omega));have BD:=q_ (ai BC.o gD (by omega));have sD:=gD.size;clear kD gD;have zD:=KD_.o.cell)
  skip
  obtain⟨jC,gQ⟩:=OD.o.oh (by rw[hle];omega);have xG:=eP d _ _ _ _ wD jC gQ (fun b h=>h.elim (OD.o.there b) (fun h=>(OD.o.aJ h).2));have Qk:=q_ (show M.qR ⟨d,l⟩ ⟨aN,aP,aR,rep,comp,sub⟩=M.canon ⟨d,l.eraseIdx j⟩ by rw[HM.o,Uw.o,if_neg (by omega),if_pos HF0.o];rfl);rw[hle] at xG;clear jC gQ
  skip
  refine xG.mono ?_;rintro e wE ⟨A7,c7,rfl,mo,Ee,gW⟩;have BE:=q_ (BD.o.trans (gW.mono BD.o.size));have Ql:=q_ (Qi.o.below gW Qi.o.lt);have Qm:=q_ mo;have Qn:=q_ Ee;have sE:=gW.size;clear mo Ee gW xG;go_wp2_with (refine ah (cs':=#[.int .u8 (d.f.toNat:Int),.int .u8 (d.c.toNat:Int),.int .u8 (d.r.toNat:Int),.int .u8 (d.e.toNat:Int),.int .u8 (d.s.toNat:Int),.slice A7 (M.canon ⟨d,l.eraseIdx j⟩).aH.length c7]) rfl 27 (.tmp 4) (.tmp 61) rfl (w.heap.size+2) (by rfl) (by rfl) Ql.o rfl (by kernel_rfl) (by simp[Value.oneCell']) ?_;intro wF kF gF;have KF:=q_ kF;have GF:=q_ gF;clear kF gF)
  (try simp only[Exit.inBlock,Exit.then]);refine bodyPost_ret (eH rfl KF.o rfl rfl rfl) rfl ?_;rw[Qk.o];exact bm.ok ⟨A7,c7,rfl,Qm.o,Qn.o.keep (fun b hb=>⟨by have:=hb.1;have:=BD.o.size;omega,by have:=hb.2;have:=GF.o.size;omega⟩) (fun p hp=>World.cell?_of_block (GF.o.block _ hp.2 (fun e=>by injection e with e;have:=hp.1;omega))),ai BE.o GF.o (by omega)⟩
 have q3:((aR:Int)==0)=false:=by simp[h0]
 have hr1:=Yb.o.2 h0;have r6:1<=aR/\aR<=200:=Yb.o.1.resolve_left h0;go_wp2_with fail;refine(KG.o _ BB.o).mono ?_
 rintro e wC ⟨rfl,Fz⟩;have BC:=q_ (BB.o.trans (Fz.mono BB.o.size));have Ux:=q_ (KB.o.below Fz KB.o.lt);have OC:=q_ (OB.o.below Fz);have QC2:=q_ (SJ.o.below Fz SJ.o.lt);have Uy:=q_ (Mc.o.below Fz Mc.o.lt);have sC:=Fz.size;clear Fz zB z2 z1;have zC:=Ux.o.cell;have hte:gv.toList.isEmpty=gv.data.toList.isEmpty:=by rw[ByteArray.toList_eq]
 cases Yy:gv.data.toList.isEmpty with
 |true=>
  rw[Yy] at hte
  skip
  obtain⟨jC,gQ⟩:=OC.o.oh (by exact hm);have xG:=eP d _ _ _ _ wC jC gQ (fun b h=>h.elim (OC.o.there b) (fun h=>(OC.o.aJ h).2));have Qk:=q_ (show M.qR ⟨d,l⟩ ⟨aN,aP,aR,rep,comp,sub⟩=M.canon ⟨d,l⟩ by rw[HM.o,Uw.o,if_neg (by omega),if_neg (by omega),if_pos Yy])
  skip
  clear jC gQ;go_wp2_with fail;refine xG.mono ?_;rintro e wE ⟨A7,c7,rfl,mo,Ee,gW⟩;have BE:=q_ (BC.o.trans (gW.mono BC.o.size));have Ql:=q_ (Uy.o.below gW Uy.o.lt);have Qm:=q_ mo;have Qn:=q_ Ee;have sE:=gW.size;clear mo Ee gW xG;go_wp2_with (refine ah (cs':=#[.int .u8 (d.f.toNat:Int),.int .u8 (d.c.toNat:Int),.int .u8 (d.r.toNat:Int),.int .u8 (d.e.toNat:Int),.int .u8 (d.s.toNat:Int),.slice A7 (M.canon ⟨d,l⟩).aH.length c7]) rfl 27 (.tmp 4) (.tmp 61) rfl (w.heap.size+2) (by rfl) (by rfl) Ql.o rfl (by kernel_rfl) (by simp[Value.oneCell']) ?_;intro wF kF gF;have KF:=q_ kF;have GF:=q_ gF;clear kF gF)
  (try simp only[Exit.inBlock,Exit.then]);refine bodyPost_ret (eH rfl KF.o rfl rfl rfl) rfl ?_;rw[Qk.o];exact bm.ok ⟨A7,c7,rfl,Qm.o,Qn.o.keep (fun b hb=>⟨by have:=hb.1;have:=BC.o.size;omega,by have:=hb.2;have:=GF.o.size;omega⟩) (fun p hp=>World.cell?_of_block (GF.o.block _ hp.2 (fun e=>by injection e with e;have:=hp.1;omega))),ai BE.o GF.o (by omega)⟩
 |false=>
  rw[Yy] at hte;have HGV:=q_ Yy;clear Yy;obtain⟨x,hx⟩:∃x,l[j]? =some x:=⟨_,e_ hj⟩
  obtain⟨XD,hr3,SD⟩:=OC.o.row;obtain⟨es,hR,hi⟩:=SD j x hx;obtain⟨Af,cf,rfl,hnx,xu,Jj⟩:=aX.inv hR;have Qg:XD[j*2+1]? =some (.slice Af x.fields.length cf):=hi 1 _ rfl;have Qh:wC.cell? ⟨g3,j*2+1,none⟩=some (.slice Af x.fields.length cf):=(hr3.cellAt _ (by have:=(g_ Qg).1;rwa [hr3.1] at this)).trans Qg;have f31:wC.frozen? ⟨g3,j*2+1,none⟩=false:=hr3.frozenAt _;have vN:g3<wC.heap.size:=(OC.o.aJ (g:=g3) rfl).2;have HLF:=q_ Jj;have HX:=q_ hx;have SB:=q_ (fun b (h:S b)=>OC.o.there b h);have KS:=q_ (fun(W:World) (h:Below wC.heap.size wC W)=>Ba aN aP aR rep comp sub r6.1 r6.2 hr1 ByteArray.empty (by decide) Af x.fields.length cf x.fields S W (fun b hb=>l_ (SB.o b hb) h.size) xu (HLF.o.below h SB.o));clear hr3 SD hR hi Jj Qg hx;generalize xk:l.length=m3 at*;go_wp2_with fail
  refine aO 11 [] aj (fun
   |10=>some fun u w'=>∃A5 n5 c5 S5,u= .slice A5 n5 c5/\(∀b,S5 b->(S b\/wC.heap.size<=b)/\b<w'.heap.size)/\dR.R w' S5 [.slice A5 n5 c5] (M.with_ [] x.fields aR (yK rep comp sub ByteArray.empty))
   |_=>none) (by kernel_rfl) (by kernel_rfl) aj.refl (by simp) (aj.draw _) aj.trans ?_ ?_
  ·intro j φ u x y hB hp jK
   split at hB<;>cases hB;obtain⟨A5,n5,c5,S5,e,h5,hr⟩:=hp;exact⟨A5,n5,c5,S5,e,fun b hb=>⟨(h5 b hb).1,l_ (h5 b hb).2 jK.size⟩,aU.below hr jK (fun b hb=>(h5 b hb).2)⟩
  iterate 10
   apply au rfl rfl
   ·intro vs wx hk K hK
    first
    |have c0:=fun i=>(Ux.o.stays hk.1).cell i
     go_simp;exact hK _ (aj.refl _)
    |have c0:=(hk.1.cell (p:=⟨g3,j*2+1,none⟩) vN).trans Qh
     go_simp;exact hK _ (aj.refl _)
    |have c0:=fun i=>(QC2.o.stays hk.1).cell i
     go_simp;exact hK _ (aj.refl _)
   intro KK af;go_simp;refine af _ ?_;clear af KK
  refine bp rfl ?_ ?_
  ·intro vs wx hk K hK
   have C:=KS.o wx hk.1;go_simp;exact C.mono fun e w' ⟨u,he,hr,hb⟩=>by obtain⟨A5,n5,c5,rfl⟩:=bF (E:=cG) hr;exact⟨_,he,hK _ _ hb ⟨A5,n5,c5,_,rfl,fun b hb2=>hb2.elim (fun h=>⟨.inl h,by have:=SB.o b h;have:=hk.1.size;have:=hb.size;omega⟩) (fun h=>⟨.inr (t_ hk.1.size h.1),h.2⟩),hr⟩⟩
  intro KK af;go_simp;refine af _ ?_;clear af KK;refine bg ?_;intro vs wG Pc hvG;obtain⟨A5,n5,c5,S5,e5,Md,Wb⟩:=hvG 10 _ (by omega) rfl;intro KK af;rw[e5];have BG:=q_ (Kn BC.o Pc);have KG_:=q_ (Ux.o.stays Pc);have QG3:=q_ (Uy.o.stays Pc)
  have OG:=q_ ((OC.o.below Pc).widen (S2:=S5) (fun b h=>(Md b h).2) (fun g' oC h=>by
   have h1:=(OC.o.aJ oC).2;rcases(Md g' h).1 with h2|h2
   ·exact OC.o.apart g' oC h2
   ·omega))
  have cC:=(Pc.cell (p:=⟨g3,j*2+1,none⟩) vN).trans Qh;have fC:=(Pc.frozen (p:=⟨g3,j*2+1,none⟩) vN).trans f31;have Ho:=q_ Wb;have sG:=Pc.size;clear Pc hvG e5 Md Wb Qh f31 zC;simp only[List.drop_succ_cons];go_wp2_with (refine bH rfl 46 (.tmp 59) (.tmp 57) rfl g3 (j*2+1) (.slice A5 n5 c5) _ (by rfl) (by rfl) cC fC (by kernel_rfl) (by rfl) ?_;intro wD JD;have WD:=q_ JD;have KD:=q_ (show ar wD g _ _ from JD▸KG_.o.far (fun e=>Hy e.symm) _);have Qi:=q_ (show ar wD (w.heap.size+2) _ _ from JD▸QG3.o.far (fun e=>Mb e.symm) _);have zD:=KD.o.cell;clear JD);have sD:wD.heap.size=wG.heap.size:=by rw[WD.o];simp[World.setCell]
  have Wc:l[j]? =some x:=HX.o
  have OD:=q_ (show aD aX 48 wD w.heap.size (fun b=>S b\/S5 b) (.slice (some ⟨g3,0,none⟩) m3 c2) (l.set j (M.kp ⟨aN,aP,aR,rep,comp,sub⟩ ByteArray.empty x)) by
   rw[WD.o]
   exact OG.o.put j 1 (by decide) (.slice A5 n5 c5) x _ Wc (fun es hes _=>by
    obtain⟨Ax,cx,rfl,Qj,_,_⟩:=aX.inv hes;show aX.R wG _ [.string x.name,.slice A5 n5 c5] _;exact aX.mk (s:=M.kp ⟨aN,aP,aR,rep,comp,sub⟩ ByteArray.empty x) Qj (aU.wide Ho.o (fun b h=> .inr h))))
  have Ph:(l.set j (M.kp ⟨aN,aP,aR,rep,comp,sub⟩ ByteArray.empty x)).length=m3:=by rw[List.length_set,xk]
  have BD:=q_ (show Below w.heap.size w wD by rw[WD.o];exact BG.o.setCell hg3.1 _)
  skip
  obtain⟨jC,gQ⟩:=OD.o.oh (by rw[Ph];omega);have xG:=eP d _ _ _ _ wD jC gQ (fun b h=>h.elim (OD.o.there b) (fun h=>(OD.o.aJ h).2));have Qk:=q_ (show M.qR ⟨d,l⟩ ⟨aN,aP,aR,rep,comp,sub⟩=M.canon ⟨d,l.set j (M.kp ⟨aN,aP,aR,rep,comp,sub⟩ ByteArray.empty x)⟩ by rw[HM.o,Uw.o,if_neg (by omega),if_neg (by omega),if_neg (by rw[HGV.o];simp),Int.toNat_natCast,eT _ _ _ _ Wc]);rw[Ph] at xG;clear jC gQ
  skip
  refine xG.mono ?_;rintro e wE ⟨A7,c7,rfl,mo,Ee,gW⟩;have BE:=q_ (BD.o.trans (gW.mono BD.o.size));have Ql:=q_ (Qi.o.below gW Qi.o.lt);have Qm:=q_ mo;have Qn:=q_ Ee;have sE:=gW.size;clear mo Ee gW xG;go_wp2_with (refine ah (cs':=#[.int .u8 (d.f.toNat:Int),.int .u8 (d.c.toNat:Int),.int .u8 (d.r.toNat:Int),.int .u8 (d.e.toNat:Int),.int .u8 (d.s.toNat:Int),.slice A7 (M.canon ⟨d,l.set j (M.kp ⟨aN,aP,aR,rep,comp,sub⟩ ByteArray.empty x)⟩).aH.length c7]) rfl 27 (.tmp 4) (.tmp 61) rfl (w.heap.size+2) (by rfl) (by rfl) Ql.o rfl (by kernel_rfl) (by simp[Value.oneCell']) ?_;intro wF kF gF;have KF:=q_ kF;have GF:=q_ gF;clear kF gF)
  (try simp only[Exit.inBlock,Exit.then]);refine bodyPost_ret (eH rfl KF.o rfl rfl rfl) rfl ?_;rw[Qk.o];exact bm.ok ⟨A7,c7,rfl,Qm.o,Qn.o.keep (fun b hb=>⟨by have:=hb.1;have:=BD.o.size;omega,by have:=hb.2;have:=GF.o.size;omega⟩) (fun p hp=>World.cell?_of_block (GF.o.block _ hp.2 (fun e=>by injection e with e;have:=hp.1;omega))),ai BE.o GF.o (by omega)⟩
end Go.Proofs.YtpohlhkgbmdieaaGreatDoor
