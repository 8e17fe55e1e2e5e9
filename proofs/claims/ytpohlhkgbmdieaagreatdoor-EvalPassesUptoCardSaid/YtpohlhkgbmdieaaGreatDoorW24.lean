/- Part 24 of the proof. -/
import Derived.Test.YtpohlhkgbmdieaaGreatDoorW23
set_option linter.unusedVariables false
set_option maxRecDepth 1000000
set_option maxHeartbeats 16000000
namespace Go.Proofs.YtpohlhkgbmdieaaGreatDoor
variable{a b:Int}{e:Ending}{env:List (ByteArray×Int)}{kl:List Int}{op:Int}{aN:Bool}{x:M.Node}
open Go Go.RowKit Go.BigFrame Go.Maps Go.WideMaps
def Bh(kl:List Int):Bool:=kl.all (fun k=>decide (k=3))
def jI(kl:List Int)(e:Ending):Prop:=if Bh kl=true then e= .returned (.int .i64 3) else∃ch,e= .panicked ch/\eR ch
theorem jI.yes(h:Bh kl=true)(he:e= .returned (.int .i64 3)):jI kl e:=by unfold jI;rw[if_pos h];exact he
theorem jI.no(h:Bh kl=false)(he:∃ch,e= .panicked ch/\eR ch):jI kl e:=by unfold jI;rw[if_neg (by rw[h];simp)];exact he
theorem QD(h:∀j,j<kl.length->kl[j]? =some 3):Bh kl=true:=by
 unfold Bh;rw[List.all_eq_true];intro x hx;obtain⟨j,hj,rfl⟩:=List.getElem_of_mem hx;have:=h j hj;rw[e_ hj] at this;simpa using this
theorem UJ{k:Nat}{x:Int}(h:kl[k]? =some x)(hx:x≠3):Bh kl=false:=by
 unfold Bh;rw[List.all_eq_false];exact⟨x,m_ h,by simpa using hx⟩
theorem Mn(b12 b6:Nat)(at_:Int)(kl:List Int)(A:Option Addr)(c:Nat)(S:Nat->Prop)(w:World)(h12:ar w b12 133 #[.slice A kl.length c])(hl:bn yJ w S A kl.length kl)(h6:ar w b6 3 #[.int .i64 at_])(hlen:kl.length<=1048576):
 Calls Tryz.prog 184 #[.pointer (some ⟨b12,0,none⟩),.pointer (some ⟨b6,0,none⟩)] w fun e w'=>jI kl e/\w'=w:=by
 obtain⟨n,hn⟩:∃n,n=kl.length:=⟨_,rfl⟩
 rw[<-hn] at h12 hl hlen;have HN:=q_ hn;have HL:=q_ hl;have c12:=fun i=>h12.cell i;have c6:=fun i=>h6.cell i;clear hn hl h12 h6;go_enter Tryz.func184,Tryz.ntmps184;go_wp2_with fail;go_loopw [7] (fun y wr=>∃k:Nat,k<=n/\y= .int .i64 k/\wr=w/\∀j,j<k->kl[j]? =some 3) (fun y _=>n-(intOf y).toNat)
 case atStart=>exact⟨0,by omega,rfl,rfl,fun j hj=>by omega⟩
 case round=>
  obtain⟨k,hk,rfl,rfl,hall⟩:=hrel;have HA:=q_ hall;clear hall;by_cases hlt:k<n
  ·have q1:decide ((k:Int)<(n:Int))=true:=by simp;omega
   obtain⟨ad,x,u,rfl,yx,hx,hr,hc⟩:=HL.o.in1 rfl hlt;obtain⟨e4,-⟩:=hr;simp at e4;subst e4;have HX:=q_ hx;clear hx;by_cases h3:x=3
   ·have H3:=q_ h3
    have q3:(x==3)=true:=by simp[h3]
    clear h3;go_wp2_with fail;refine(bL 82 _ _).mono ?_
    rintro e w7 ⟨rfl,h7⟩;have h7:=h7.symm;subst h7;go_wp2;go_roundw
    case rel=>exact⟨k+1,by omega,by go_num,trivial,fun j hj=>by
     rcases Nat.lt_or_ge j k with h|h
     ·exact HA.o j h
     ·obtain rfl:j=k:=by omega
      rw[HX.o,H3.o]⟩
    case measure=>simp[intOf];omega
   ·have H3:=q_ h3
    have q3:(x==3)=false:=by simp[h3]
    clear h3;go_wp2_with fail;refine(cM 82 _ (by decide) _).mono ?_
    rintro e w7 ⟨⟨ch,rfl,hf⟩,h7⟩;have h7:=h7.symm;subst h7;go_wp2;exact⟨rfl,jI.no (UJ HX.o H3.o) ⟨ch,rfl,hf⟩,rfl⟩
  ·have q1:decide ((k:Int)<(n:Int))=false:=by simp;omega
   have HY:=q_ (QD (kl:=kl) (fun j hj=>HA.o j (by have:=HN.o;omega)));go_wp2;go_ret;exact⟨jI.yes HY.o rfl,rfl⟩
theorem Mo:vC 0:=by
 intro t aN at_ g mb D f env dests tables S A c w hT;simp[M.jP] at hT
theorem rC(h:M.b7 op=3):7<=op/\op<=23:=by
 unfold M.b7 at h;split at h
 ·simp at h
 ·split at h
  ·simp at h
  ·split at h
   ·assumption
   ·simp at h
theorem Mp(h:M.right x=true)(hb:M.lQ x.op=true)(h0:13<=x.op/\x.op<=21):x.n=2:=by
 unfold M.right at h;simp only[Bool.and_eq_true,Bool.or_eq_true,decide_eq_true_eq] at h;obtain⟨⟨⟨-,h1⟩,h2⟩,-⟩:=h;have e1:M.cd x.op=2:=by unfold M.cd;simp[hb];try omega
 have e2:M.nR x.op=2:=by
  unfold M.nR;rw[if_neg (by omega),if_neg (by omega),if_neg (by omega),if_pos hb]
 rw[e1] at h1;rw[e2] at h2;omega
theorem QE(h:13<=op/\op<=21):M.lQ op=true:=by simp[M.lQ,h.1,h.2]
theorem Mq(h:x.op=13\/x.op=14\/x.op=22):M.xo env x kl aN=if Bh kl=true then .ok 3 else .error 82:=by
 unfold M.xo;rw[if_pos h];rfl
theorem QF(h:x.op=21):M.xo env x [a,b] aN=if M.both a b=true then .ok a else .error 82:=by
 unfold M.xo;rw[if_neg (by omega),if_pos h];rfl
theorem Yl(h:x.op=15\/x.op=16):M.xo env x [a,b] aN=if a=b then .ok 3 else .error 82:=by
 unfold M.xo;rw[if_neg (by omega),if_neg (by omega),if_pos h];rfl
theorem UK(h:17<=x.op/\x.op<=20):M.xo env x [a,b] aN=if M.both a b=true then .ok 3 else .error 82:=by
 unfold M.xo;rw[if_neg (by omega),if_neg (by omega),if_neg (by omega),if_pos h];rfl
theorem QG(h:x.op=11):M.xo env x kl aN=if aN=true\/0<x.path.aR then .ok 1 else .error 82:=by
 unfold M.xo;rw[if_neg (by omega),if_neg (by omega),if_neg (by omega),if_neg (by omega),if_pos h]
theorem QH(h:x.op=12):M.xo env x kl aN=match M.look x.text env with|some k=> .ok k|none=> .error 92:=by
 unfold M.xo;rw[if_neg (by omega),if_neg (by omega),if_neg (by omega),if_neg (by omega),if_neg (by omega),if_pos h];cases M.look x.text env<;>rfl
theorem ja4(h:x.op=8):M.xo env x kl aN= .ok 2:=by
 unfold M.xo;rw[if_neg (by omega),if_neg (by omega),if_neg (by omega),if_neg (by omega),if_neg (by omega),if_neg (by omega),if_pos h]
theorem ja5(h:x.op=7):M.xo env x kl aN= .ok 1:=by
 unfold M.xo;rw[if_neg (by omega),if_neg (by omega),if_neg (by omega),if_neg (by omega),if_neg (by omega),if_neg (by omega),if_neg (by omega),if_pos h]
theorem ja6(h:x.op=9\/x.op=10):M.xo env x kl aN= .ok 3:=by
 unfold M.xo;rw[if_neg (by omega),if_neg (by omega),if_neg (by omega),if_neg (by omega),if_neg (by omega),if_neg (by omega),if_neg (by omega),if_neg (by omega)]
theorem oP{T:TypeId}{w:World}{B:Nat}{v:Value}(h:aD yJ T w B (fun _=>False) v [a,b]):∃g c,v= .slice (some ⟨g,0,none⟩) 2 c/\w.cell? ⟨g,0,none⟩=some (.int .i64 a)/\w.cell? ⟨g,1,none⟩=some (.int .i64 b)/\g<w.heap.size:=by
 obtain⟨g,c,x0,u0,e0,hx0,r6,hc0,-,-⟩:=h.in1 (k:=0) rfl (by simp);obtain⟨g1,c1,x1,u1,e1,hx1,hr1,hc1,-,-⟩:=h.in1 (k:=1) rfl (by simp);simp at hx0 hx1;subst hx0 hx1;obtain⟨z0,-⟩:=r6;obtain⟨z1,-⟩:=hr1;simp at z0 z1;subst z0 z1;rw[e0] at e1;injection e1 with e1;injection e1 with e1;injection e1 with e1;subst e1;exact⟨g,c,e0,hc0,hc1,(h.aJ (g:=g) (by rw[e0];rfl)).2⟩
theorem kI{f:cy->Option Int}{name:ByteArray}:∀{n:Nat} {v k:Int},dZ f name n=some (v,k)->0<=k
 |0,v,k,h=>by simp[dZ] at h
 |n+1,v,k,h=>by
  unfold dZ at h;split at h
  ·simp at h
   omega
  ·exact kI h
theorem H'(h:kl.length=2):∃a b,kl=[a,b]:=by
 match kl,h with
 |[a,b],_=>exact⟨a,b,rfl⟩
theorem Mr(d:Nat)(ih:vC d)(iv:PC d):vC (d+1):=by
 intro t aN at_ g mb D f env dests tables S A c w hT bf jH my aI hl;cases t with
 |mk x ks=>
 have hm:=aI.le;obtain⟨dM,fj,fk⟩:=cU hT;have rD:=rC dM;have kf:M.flat (.mk x ks)=x::M.bB ks:=by unfold M.flat;rfl
 have HK:=q_ jH;have jY:=q_ my;have Bf:=q_ bf;have nk:=q_ aI;have HL:=q_ hl;have HT:=q_ hT;have IH:=q_ ih;have HC:=q_ iv;have HSW:=q_ jH.there;have hl0:=(hl.below ((Below.refl _ w).alloc (n_) (.cells #[.int .i64 at_] 3)) jH.there)
 rw[kf] at hl0;obtain⟨ad,rfl,yx,kE,e0,he⟩:=dy hl0;have yF:x.text.size<=1048576:=kE.2.2.1;have sT:=M.eC (.mk x ks);have e1:=he 0 _ rfl;have e2:=he 1 _ rfl;have e3:=he 2 _ rfl;have e4:=he 3 _ rfl;have e5:=he 4 _ rfl;have e6:=he 5 _ rfl;have e7:=he 6 _ rfl;have e8:=he 7 _ rfl;have e9:=he 8 _ rfl
 have UD:ks.length<=1048576:=by
  have h1:=M.dx ks;have h2:(M.flat (.mk x ks)).length=(M.bB ks).length+1:=by rw[kf];rfl
  omega
 have HR:=q_ fj;have HN3:=q_ fk;have QI:=q_ rD;have WANTED:=q_ (show∀k:Nat,M.wanted x k=3 by intro k;unfold M.wanted;rw[if_neg (by omega),if_neg (by omega)]);have iX:=q_ (show M.pz ks by unfold M.mh at bf;exact bf.2);generalize Jo:(M.flat (.mk x ks)).length=m at*;clear hl0 hl he jH my bf aI hT ih iv kf dM fj fk rD;obtain⟨w1,bu⟩:∃w1,w1=w.alloc (.cells #[.int .i64 at_] 3):=⟨_,rfl⟩
 rw[<-bu] at e0 e1 e2 e3 e4 e5 e6 e7 e8 e9;have s1:w1.heap.size=w.heap.size+1:=by rw[bu];simp
 obtain⟨w2,hw2⟩:∃w2,w2=w1.alloc (.cells #[.int .i64 x.op,.int .i64 x.n,.string x.text,.int .i64 x.num,.string x.path.aN,.int .i64 x.path.aP,.int .i64 x.path.aR,.int .i64 x.path.rep,.int .i64 x.path.comp,.int .i64 x.path.sub] 129):=⟨_,rfl⟩
 have K6:=q_ (show ar w2 w.heap.size 3 #[.int .i64 at_] from hw2▸(show ar w1 w.heap.size 3 #[.int .i64 at_] from bu▸ar.new w _ _).alloc _);have K9:=q_ (show ar w2 (w.heap.size+1) 129 #[.int .i64 x.op,.int .i64 x.n,.string x.text,.int .i64 x.num,.string x.path.aN,.int .i64 x.path.aP,.int .i64 x.path.aR,.int .i64 x.path.rep,.int .i64 x.path.comp,.int .i64 x.path.sub] from hw2▸s1▸ar.new w1 _ _);have B2:=q_ (show Below w.heap.size w w2 from hw2▸(bu▸(Below.refl _ w).alloc (n_) _:Below w.heap.size w w1).alloc (by omega) _);have s2:w2.heap.size=w.heap.size+2:=by rw[hw2];simp;omega
 have qK:=q_ (fun b (h:S b)=>l_ (HSW.o b h) B2.o.size);have CK2:=q_ (HK.o.below B2.o);go_enter Tryz.func143,Tryz.ntmps143;have tC:=bu.symm;have jci:=hw2.symm;clear bu hw2;by_cases hop:x.op=23
 ·have CC:=q_ (HC.o x ks aN at_ g mb D f env dests tables S (some ad) c w2 HT.o Bf.o hop CK2.o jY.o (Jo▸nk.o) (Jo▸HL.o.below B2.o HSW.o))
  have q0:(x.op==23)=true:=by simp[hop]
  have z6:=fun i=>K6.o.cell i;have z9:=fun i=>K9.o.cell i;rw[Jo] at CC;clear hop;go_wp2_with fail;refine CC.o.mono ?_;rintro e w3 ⟨hb3,he⟩;cases hr:M.bG (aG tables) env (d+1) aN (.mk x ks) with
  |error er=>
   rw[hr] at he;obtain⟨ch,rfl,hf⟩:=he;go_wp2;exact⟨rfl,B2.o.trans (hb3.mono B2.o.size),ch,rfl,hf⟩
  |ok kk=>
   rw[hr] at he;obtain rfl:=he;go_wp2;go_ret;exact bU.ok hr (B2.o.trans (hb3.mono B2.o.size)) rfl
 ·have hHM:M.bG (aG tables) env (d+1) aN (.mk x ks)=match M.ed (M.bG (aG tables) env d false) ks with
   | .error e=> .error e
   | .ok kinds=>M.xo env x kinds aN:=by
   conv=>lhs;unfold M.bG
   rw[if_neg hop];rfl
  have HM:=q_ hHM;have mq:=q_ hop;have q0:(x.op==23)=false:=by simp[hop]
  clear hHM hop;have z6:=fun i=>K6.o.cell i;have z9:=fun i=>K9.o.cell i;have KP:=q_ (fh x ks Bf.o (some ad) m c S w2 qK.o nk.o (HL.o.below B2.o HSW.o));go_wp2_with fail;refine KP.o.mono ?_;rintro e w3 ⟨A1,c1,A2,c2,rfl,kY,hk2,dF,hl2,hb3⟩;have B3:=q_ (B2.o.trans (hb3.mono B2.o.size));have Nz:=q_ (K6.o.below hb3 K6.o.lt);have K93:=q_ (K9.o.below hb3 K9.o.lt);have P1:=q_ dF;have P2:=q_ hl2;have SW:=q_ (show∀b,(S b\/New w2 w3 b)->b<w3.heap.size from fun b h=>h.elim (fun h=>l_ (qK.o b h) hb3.size) (fun h=>h.2));have hs3:=hb3.size;clear kY hk2 dF hl2 hb3 tC jci e0 e1 e2 e3 e4 e5 e6 e7 e8 e9 z6 z9;obtain⟨F,hF⟩:∃F,F=M.bG (aG tables) env d false:=⟨_,rfl⟩
  have HF:=q_ hF;obtain⟨w4,hw4⟩:∃w4,w4=w3.alloc (.cells #[.slice none 0 0] 133):=⟨_,rfl⟩
  have s4:w4.heap.size=w3.heap.size+1:=by rw[hw4];simp
  have K12:=q_ (show ar w4 w3.heap.size 133 #[.slice none 0 0] from hw4▸ar.new w3 _ _);have UI:=q_ (show Below w3.heap.size w3 w4 from hw4▸aj.alloc _ _);obtain⟨ZK,DJ,hz2,hs2,hb2⟩:=info_parts vy;have I1:=q_ DJ;have I2:=q_ hz2;have I3:=q_ hs2;have I4:=q_ hb2;clear hF DJ hz2 hs2 hb2;go_wp2_with fail;rw[<-hw4];clear hw4;go_loopw [35] (fun y wr=>∃(k:Nat) (kl:List Int) (v:Value),k<=ks.length/\y= .int .i64 k/\ar wr w3.heap.size 133 #[v]/\aD yJ 3 wr (w3.heap.size+1) (fun _=>False) v kl/\kl.length=k/\(∀(j:Nat) (t:M.Tree),j<k->ks[j]? =some t->∃kk,kl[j]? =some kk/\F t= .ok kk)/\Below w3.heap.size w3 wr/\w4.heap.size<=wr.heap.size) (fun y _=>ks.length-(intOf y).toNat)
  case atStart=>exact⟨0,[],_,by omega,rfl,K12.o,aD.nil (fun b hb=>hb.elim),rfl,(fun j t hj=>by omega),UI.o,n_⟩
  case round=>
   obtain⟨k,kl,v,hk,rfl,hv,hown,nM,hall,hb,hz⟩:=hrel;have yR:=q_ hv;have OW:=q_ hown;have nO:=q_ hall;have HB:=q_ hb;have ue:=q_ nM;have BR:=q_ (B3.o.trans (hb.mono B3.o.size));have hsr:=hb.size;have JH:=q_ (Nz.o.below hb Nz.o.lt);have K9R:=q_ (K93.o.below hb K93.o.lt);clear hown hall hb nM hv;by_cases hlt:k<ks.length
   ·have q1:decide ((k:Int)<(ks.length:Int))=true:=by simp;omega
    obtain⟨t,dY⟩:∃t,ks[k]? =some t:=⟨_,e_ hlt⟩
    obtain⟨a1,y1,u1,rfl,ib,fI,hr1,hc1⟩:=(P1.o.below HB.o SW.o).in1 rfl hlt;rw[List.getElem?_map,dY] at fI;cases fI;obtain⟨At,ct,rfl,fE,di⟩:=aU.av (E:=ENode) hr1;obtain⟨a2,y2,u2,rfl,nQ,eI,hr2,hc2⟩:=(P2.o.below HB.o (fun b h=>h.2)).in1 rfl hlt;obtain⟨e2,-⟩:=hr2;simp at e2;subst e2;have gS:=cF HT.o dY;rw[show M.wanted x k=3 from WANTED.o k] at gS;have KE:=q_ (fun(W:World) (h:Below wr.heap.size wr W) (z:Int)=>IH.o t false z g mb D f env dests tables (fun b=>S b\/New w2 w3 b) At ct W gS (M.cw (show M.pz ks from iX.o) dY) (((HK.o.below BR.o).wide (fun b h=> .inl h) (fun b h=>by have:=SW.o b h;omega)).below h) jY.o fE (di.below h (fun b h=>by have:=SW.o b h;omega)));rw[<-HF.o] at KE;have H7:=q_ (show a2.block<wr.heap.size from by have:=nQ.2;omega);clear hr1 di;cases pY:F t with
    |error er=>
     have gR:=q_ (show∃z,M.bG (aG tables) env (d+1) aN (.mk x ks)= .error z by
      obtain⟨z,hz⟩:=kz F ks k t er dY pY;rw[HF.o] at hz;exact⟨z,by rw[HM.o,hz]⟩)
     clear dY;go_wp2_with fail;refine ak (KP:=fun ch w5=>eR ch/\Below w.heap.size w w5) 11 [] (cN wr 9) (by kernel_rfl) (by kernel_rfl) (cN.start wr 9) (fun ch a2 w5 hd hk=>⟨hd,bU.err gR.o hk.2 ⟨ch,rfl,hk.1⟩⟩) ?_
     iterate 9
      apply ae rfl
      ·intro L vs wx hI hR hL K hK
       first
       |have c0:=fun i=>(yR.o.below hI.below yR.o.lt).cell i
        go_simp;exact hK _ (hI.pure (by decide))
       |have c0:=fun i=>(JH.o.below hI.below JH.o.lt).cell i
        go_simp;exact hK _ (hI.pure (by decide))
       |have c0:=(hI.below.cell (p:=a2.add k) (by rw[az];exact H7.o)).trans hc2
        go_simp;exact hK _ (hI.pure (by decide))
      intro KK af;go_simp;refine af _ ?_;clear af KK
     refine ae (v:= .int .i64 0) rfl ?_ ?_
     ·intro L vs wx hI hR hL K hK
      go_simp;exact((KE.o wx hI.below _).mono fun e w' ⟨hb,he⟩=> .inr (by rw[pY] at he;obtain⟨ch,rfl,hf⟩:=he;exact⟨ch,rfl,hf,BR.o.trans ((hI.below.trans (hb.mono hI.below.size)).mono BR.o.size)⟩))
     intro KK af;go_simp;refine af _ ?_;clear af KK;refine ae (v:= .int .i64 0) rfl (fun L vs wx hI hR=>absurd (hR 9 (by kernel_rfl)) (by rw[hI.no];simp)) ?_;intro KK af;refine af _ ?_;clear af KK;refine aw ?_;intro vs w5 hI;exact absurd hI.no (by decide)
    |ok kk=>
     have Ml:=q_ dY;have pX:=q_ pY;clear dY;go_wp2_with fail;refine ak (KP:=fun _ _=>False) 11 [10] (mm wr 10 3 #[.int .i64 kk]) (by kernel_rfl) (by kernel_rfl) (mm.start wr) (fun ch a2 w5 hd hk=>hk.elim) ?_
     iterate 9
      apply ae rfl
      ·intro L vs wx hI hR hL K hK
       first
       |have c0:=fun i=>(yR.o.below hI.below yR.o.lt).cell i
        go_simp;exact hK _ (hI.pure (by decide))
       |have c0:=fun i=>(JH.o.below hI.below JH.o.lt).cell i
        go_simp;exact hK _ (hI.pure (by decide))
       |have c0:=(hI.below.cell (p:=a2.add k) (by rw[az];exact H7.o)).trans hc2
        go_simp;exact hK _ (hI.pure (by decide))
      intro KK af;go_simp;refine af _ ?_;clear af KK
     refine ae (v:= .int .i64 kk) rfl ?_ ?_
     ·intro L vs wx hI hR hL K hK
      go_simp;exact(KE.o wx hI.below _).mono fun e w' ⟨hb,he⟩=>⟨_,(show e= .returned (.int .i64 kk) by rw[pY] at he;exact he),hK _ (hI.move hb (by decide))⟩
     intro KK af;go_simp;refine af _ ?_;clear af KK;refine bc rfl ?_ ?_
     ·intro L vs wx hI hR hL K hK
      go_simp;exact hK _ _ hI.make
     intro KK af;go_simp;refine af _ ?_;clear af KK;refine aw ?_;intro vs w5 hI;obtain⟨g5,qJ,ja2,Fw⟩:=hI.blk (by decide);have S5:=q_ hI.below;have K5:=q_ Fw;have hs5:=hI.below.size;intro KK af;have kg:=fun a w h=>af .normal a w h;clear af;rw[qJ];clear hI qJ Fw;simp only[List.drop_succ_cons];have O5:=q_ (OW.o.below S5.o);have V5:=q_ (yR.o.below S5.o yR.o.lt);have H8:kl.length<=1048576:=by have:=ue.o;omega
     refine ay rfl (.tmp 40) (.tmp 50) _ rfl ZK (.int .i64 0) 8 Tryz.underlying133 I1.o I2.o I3.o I4.o rfl rfl O5.o ⟨g5,0,none⟩ 1 1 [kk] rfl rfl (fw K5.o ⟨rfl,trivial⟩) (by omega) (by omega) (by omega) ?_;intro o6 w6 jt dw oH _;have hne:=aD.fV O5.o V5.o (by decide);have V6:=q_ (V5.o.grown oH (fun e=>hne e.symm));have O6:=q_ jt;have S6:=q_ (show Below w3.heap.size w3 w6 from(HB.o.trans (S5.o.mono HB.o.size)).trans (dw.mono (by omega)));have jL:=dw.size
     have HA6:=q_ (show∀(j:Nat) (t:M.Tree),j<k+1->ks[j]? =some t->∃z,(kl++[kk])[j]? =some z/\F t= .ok z from fun j t' hj kH=>by
      rcases Nat.lt_or_ge j k with h1|h1
      ·obtain⟨z,hz1,hz2⟩:=nO.o j t' h1 kH
       exact⟨z,by rw[List.getElem?_append_left (by have:=ue.o;omega)];exact hz1,hz2⟩
      ·obtain rfl:j=k:=by omega
       rw[Ml.o] at kH;cases kH;exact⟨kk,by rw[List.getElem?_append_right (by have:=ue.o;omega),ue.o];simp,pX.o⟩)
     have Ec:=aD.fV O6.o V6.o (by decide);clear jt dw oH hne;go_wp2_with (refine bY rfl 133 (.tmp 12) (.tmp 51) rfl w3.heap.size 0 o6 (by rfl) (by rfl) V6.o (by simp) (by kernel_rfl) (by obtain⟨A6,c6,e⟩:=O6.o.shape;rw[e];rfl) ?_;intro w7 hk7 FE;have V7:=q_ (show ar w7 w3.heap.size 133 #[o6] from hk7);have O7:=q_ (O6.o.aK FE (by simpa using Ec) (fun h=>h));have S7:=q_ (ai S6.o FE (by omega));have s7:=FE.size;clear hk7 FE);go_roundw
     case rel=>exact⟨k+1,kl++[kk],o6,by omega,by go_num,V7.o,O7.o,by rw[List.length_append,ue.o];rfl,HA6.o,S7.o,by omega⟩
     case measure=>simp[intOf];omega
   ·have lu:k=ks.length:=by omega
    have QA:=q_ (rj F ks kl (by rw[ue.o,lu]) (fun j t hj=>nO.o j t (by
     have:=(List.getElem?_eq_some_iff.mp hj).1;omega) hj))
    have vP:=q_ (show M.bG (aG tables) env (d+1) aN (.mk x ks)=M.xo env x kl aN by rw[HM.o,<-HF.o,QA.o]);have H8:kl.length<=1048576:=by have:=ue.o;omega
    have q1:decide ((k:Int)<(ks.length:Int))=false:=by simp;omega
    have NC:=q_ (HK.o.below BR.o)
    have TWO:=q_ (show 13<=x.op/\x.op<=21->kl.length=2 from fun h=>by
     have h1:=Mp HR.o (QE h) h;have h2:=HN3.o;have h3:=ue.o;omega)
    have z6:=fun i=>JH.o.cell i;have z9:=fun i=>K9R.o.cell i;have z12:=fun i=>yR.o.cell i
    have mz:x.op=7\/x.op=8\/(x.op=9\/x.op=10)\/x.op=11\/x.op=12\/(x.op=13\/x.op=14\/x.op=22)\/(x.op=15\/x.op=16)\/(x.op=17\/x.op=18\/x.op=19\/x.op=20)\/x.op=21:=by
     have:=QI.o;have:=mq.o;omega
    have QN:=q_ mz;clear mz q0;have mz:=QN.o;clear QN;rcases mz with hop|hop|hop|hop|hop|hop|hop|hop|hop
    ·have LAW:=q_ (vP.o.trans (ja5 hop))
     go_wp2;go_ret;exact bU.ok LAW.o BR.o rfl
    ·have LAW:=q_ (vP.o.trans (ja4 hop))
     go_wp2;go_ret;exact bU.ok LAW.o BR.o rfl
    ·have LAW:=q_ (vP.o.trans (ja6 hop))
     rcases hop with hop|hop
     ·go_wp2
      go_ret;exact bU.ok LAW.o BR.o rfl
     ·go_wp2
      go_ret;exact bU.ok LAW.o BR.o rfl
    ·have LAW:=q_ (vP.o.trans (QG hop))
     cases aN with
     |true=>
      go_wp2_with fail;refine(bL 82 _ _).mono ?_
      rintro e w8 ⟨rfl,h8⟩;have h8:=h8.symm;subst h8;go_wp2;go_ret;exact bU.ok (LAW.o.trans (by simp)) BR.o rfl
     |false=>
      by_cases kf:0<x.path.aR
      ·have q7:decide (0<x.path.aR)=true:=by simp[kf]
       have SC:=q_ kf;clear kf;go_wp2_with fail;refine(bL 82 _ _).mono ?_
       rintro e w8 ⟨rfl,h8⟩;have h8:=h8.symm;subst h8;go_wp2;go_ret;exact bU.ok (LAW.o.trans (by simp[SC.o])) BR.o rfl
      ·have q7:decide (0<x.path.aR)=false:=by simp;omega
       have SC:=q_ kf;clear kf;go_wp2_with fail;refine(cM 82 _ (by decide) _).mono ?_
       rintro e w8 ⟨⟨ch,rfl,hf⟩,h8⟩;have h8:=h8.symm;subst h8;go_wp2;exact⟨rfl,bU.err ⟨82,LAW.o.trans (by have:=SC.o;simp[this])⟩ (BR.o) ⟨ch,rfl,hf⟩⟩
    ·have LAW:=q_ (vP.o.trans (QH hop))
     obtain⟨dA,dc,tA,tc,hg,jf,nU,JF,FH⟩:=NC.o.blk;have FD:=q_ (DN g mb D f _ _ x.text wr NC.o.deep hg NC.o.map yF);have LK:=q_ (jY.o x.text);clear JF FH hg;go_wp2_with fail;refine FD.o.mono ?_;rintro e w7 ⟨rfl,gW⟩;have B7:=q_ (BR.o.trans (gW.mono BR.o.size));have K67:=q_ (JH.o.below gW JH.o.lt);have z67:=fun i=>K67.o.cell i;clear gW;unfold vA;cases hfn:dZ f x.text (D+1) with
     |none=>
      have HFN:=q_ hfn;clear hfn;go_wp2_with fail;refine(cM 92 _ (by decide) _).mono ?_
      rintro e w8 ⟨⟨ch,rfl,hf⟩,h8⟩;have h8:=h8.symm;subst h8;go_wp2;exact⟨rfl,bU.err ⟨92,LAW.o.trans (by rw[LK.o,HFN.o];rfl)⟩ (B7.o) ⟨ch,rfl,hf⟩⟩
     |some p=>
      obtain⟨kv,dd⟩:=p;have HFN:=q_ hfn;have hdd:=kI hfn;have q7:decide (0<=dd)=true:=by simp[hdd]
      have q8:decide (dd>=0)=true:=by simp[hdd]
      clear hfn;go_wp2_with fail;refine(bL 92 _ _).mono ?_
      rintro e w8 ⟨rfl,h8⟩;have h8:=h8.symm;subst h8;go_wp2;go_ret;exact bU.ok (LAW.o.trans (by rw[LK.o,HFN.o];rfl)) B7.o rfl
    ·have LAW:=q_ (vP.o.trans (Mq hop))
     obtain⟨A',c',rfl⟩:=OW.o.shape;obtain⟨oJ,hl2⟩:=OW.o.oh H8;have TR:=q_ (Mn w3.heap.size w.heap.size at_ kl A' c' _ wr yR.o hl2 JH.o H8);clear oJ hl2;rcases hop with hop|hop|hop
     all_goals
      go_wp2_with fail;refine TR.o.mono ?_;rintro e w7 ⟨ht,h7⟩;have h7:=h7.symm;subst h7;unfold jI at ht;by_cases h3:Bh kl=true
      ·rw[if_pos h3] at ht
       have cu:=q_ (LAW.o.trans (if_pos h3));obtain rfl:=ht;clear h3;go_wp2;go_ret;exact bU.ok cu.o BR.o rfl
      ·rw[if_neg h3] at ht
       have cu:=q_ (LAW.o.trans (if_neg h3));obtain⟨ch,rfl,hf⟩:=ht;clear h3;go_wp2;exact⟨rfl,bU.err ⟨82,cu.o⟩ BR.o ⟨ch,rfl,hf⟩⟩
    ·have QJ:=q_ hop
     obtain⟨ka,kb,rfl⟩:=H' (TWO.o (by omega));obtain⟨gK,cK,rfl,hc0,hc1,QK⟩:=oP OW.o;have LAW:=q_ (vP.o.trans (Yl (by omega)));rcases hop with hop|hop
     all_goals
      clear z12;go_wp2_with fail;refine ak (KP:=fun _ _=>False) 8 [] (cN wr 100) (by kernel_rfl) (by kernel_rfl) (cN.start wr 100) (fun ch a2 w5 hd hk=>hk.elim) ?_
      iterate 8
       apply ae rfl
       ·intro L vs wx hI hR hL K hK
        first
        |have c0:=fun i=>(yR.o.below hI.below yR.o.lt).cell i
         go_simp;exact hK _ (hI.pure (by decide))
        |have c0:=(hI.below.cell (p:=⟨gK,0,none⟩) QK).trans hc0
         go_simp;exact hK _ (hI.pure (by decide))
        |have c0:=(hI.below.cell (p:=⟨gK,1,none⟩) QK).trans hc1
         go_simp;exact hK _ (hI.pure (by decide))
        |have c0:=fun i=>(JH.o.below hI.below JH.o.lt).cell i
         go_simp;exact hK _ (hI.pure (by decide))
       intro KK af;go_simp;refine af _ ?_;clear af KK
      refine aw ?_;intro vs w7 hI;have B7:=q_ (BR.o.trans (hI.below.mono BR.o.size));have V7:=q_ (yR.o.below hI.below yR.o.lt);have c7:=(hI.below.cell (p:=⟨gK,0,none⟩) QK).trans hc0;clear hI;intro KK af;have kg:=fun a w h=>af .normal a w h;simp only[List.drop_succ_cons];have v7:=fun i=>V7.o.cell i;by_cases hq:ka=kb
      ·have cu:=q_ (LAW.o.trans (if_pos hq))
       have q7:(ka==kb)=true:=by simp[hq]
       have HQ:=q_ hq;clear hq;go_wp2_with fail;refine(bL 82 _ _).mono ?_
       rintro e w8 ⟨rfl,h8⟩;have h8:=h8.symm;subst h8;go_wp2;go_ret;exact bU.ok cu.o B7.o rfl
      ·have cu:=q_ (LAW.o.trans (if_neg hq))
       have q7:(ka==kb)=false:=by simp[hq]
       have HQ:=q_ hq;clear hq;go_wp2_with fail;refine(cM 82 _ (by decide) _).mono ?_
       rintro e w8 ⟨⟨ch,rfl,hf⟩,h8⟩;have h8:=h8.symm;subst h8;go_wp2;exact af _ _ _ ⟨rfl,bU.err ⟨82,cu.o⟩ (B7.o) ⟨ch,rfl,hf⟩⟩
    ·have QJ:=q_ hop
     obtain⟨ka,kb,rfl⟩:=H' (TWO.o (by omega));obtain⟨gK,cK,rfl,hc0,hc1,QK⟩:=oP OW.o;have LAW:=q_ (vP.o.trans (UK (by omega)));rcases hop with hop|hop|hop|hop
     all_goals
      clear z12;go_wp2_with fail;refine ak (KP:=fun _ _=>False) 8 [] (cN wr 100) (by kernel_rfl) (by kernel_rfl) (cN.start wr 100) (fun ch a2 w5 hd hk=>hk.elim) ?_
      iterate 8
       apply ae rfl
       ·intro L vs wx hI hR hL K hK
        first
        |have c0:=fun i=>(yR.o.below hI.below yR.o.lt).cell i
         go_simp;exact hK _ (hI.pure (by decide))
        |have c0:=(hI.below.cell (p:=⟨gK,0,none⟩) QK).trans hc0
         go_simp;exact hK _ (hI.pure (by decide))
        |have c0:=(hI.below.cell (p:=⟨gK,1,none⟩) QK).trans hc1
         go_simp;exact hK _ (hI.pure (by decide))
        |have c0:=fun i=>(JH.o.below hI.below JH.o.lt).cell i
         go_simp;exact hK _ (hI.pure (by decide))
        |go_simp
         exact(DK ka kb wx).mono fun e w' ⟨h1,h2⟩=>⟨_,h1,by rw[h2];exact hK _ (hI.pure (by decide))⟩
       intro KK af;go_simp;refine af _ ?_;clear af KK
      refine aw ?_;intro vs w7 hI;have B7:=q_ (BR.o.trans (hI.below.mono BR.o.size));have V7:=q_ (yR.o.below hI.below yR.o.lt);have c7:=(hI.below.cell (p:=⟨gK,0,none⟩) QK).trans hc0;clear hI;intro KK af;have kg:=fun a w h=>af .normal a w h;simp only[List.drop_succ_cons];have v7:=fun i=>V7.o.cell i;by_cases hq:M.both ka kb=true
      ·have cu:=q_ (LAW.o.trans (if_pos hq))
       have q7:M.both ka kb=true:=by simp[hq]
       have HQ:=q_ hq;clear hq;go_wp2_with fail;refine(bL 82 _ _).mono ?_
       rintro e w8 ⟨rfl,h8⟩;have h8:=h8.symm;subst h8;go_wp2;go_ret;exact bU.ok cu.o B7.o rfl
      ·have cu:=q_ (LAW.o.trans (if_neg hq))
       have q7:M.both ka kb=false:=by simp[hq]
       have HQ:=q_ hq;clear hq;go_wp2_with fail;refine(cM 82 _ (by decide) _).mono ?_
       rintro e w8 ⟨⟨ch,rfl,hf⟩,h8⟩;have h8:=h8.symm;subst h8;go_wp2;exact af _ _ _ ⟨rfl,bU.err ⟨82,cu.o⟩ (B7.o) ⟨ch,rfl,hf⟩⟩
    ·have QJ:=q_ hop
     obtain⟨ka,kb,rfl⟩:=H' (TWO.o (by omega));obtain⟨gK,cK,rfl,hc0,hc1,QK⟩:=oP OW.o;have LAW:=q_ (vP.o.trans (QF (by omega)));clear z12;go_wp2_with fail;refine ak (KP:=fun _ _=>False) 8 [] (cN wr 100) (by kernel_rfl) (by kernel_rfl) (cN.start wr 100) (fun ch a2 w5 hd hk=>hk.elim) ?_
     iterate 8
      apply ae rfl
      ·intro L vs wx hI hR hL K hK
       first
       |have c0:=fun i=>(yR.o.below hI.below yR.o.lt).cell i
        go_simp;exact hK _ (hI.pure (by decide))
       |have c0:=(hI.below.cell (p:=⟨gK,0,none⟩) QK).trans hc0
        go_simp;exact hK _ (hI.pure (by decide))
       |have c0:=(hI.below.cell (p:=⟨gK,1,none⟩) QK).trans hc1
        go_simp;exact hK _ (hI.pure (by decide))
       |have c0:=fun i=>(JH.o.below hI.below JH.o.lt).cell i
        go_simp;exact hK _ (hI.pure (by decide))
       |go_simp
        exact(DK ka kb wx).mono fun e w' ⟨h1,h2⟩=>⟨_,h1,by rw[h2];exact hK _ (hI.pure (by decide))⟩
      intro KK af;go_simp;refine af _ ?_;clear af KK
     refine aw ?_;intro vs w7 hI;have B7:=q_ (BR.o.trans (hI.below.mono BR.o.size));have V7:=q_ (yR.o.below hI.below yR.o.lt);have c7:=(hI.below.cell (p:=⟨gK,0,none⟩) QK).trans hc0;clear hI;intro KK af;have kg:=fun a w h=>af .normal a w h;simp only[List.drop_succ_cons];have v7:=fun i=>V7.o.cell i;by_cases hq:M.both ka kb=true
     ·have cu:=q_ (LAW.o.trans (if_pos hq))
      have q7:M.both ka kb=true:=by simp[hq]
      have HQ:=q_ hq;clear hq;go_wp2_with fail;refine(bL 82 _ _).mono ?_
      rintro e w8 ⟨rfl,h8⟩;have h8:=h8.symm;subst h8;go_wp2;go_ret;exact bU.ok cu.o B7.o rfl
     ·have cu:=q_ (LAW.o.trans (if_neg hq))
      have q7:M.both ka kb=false:=by simp[hq]
      have HQ:=q_ hq;clear hq;go_wp2_with fail;refine(cM 82 _ (by decide) _).mono ?_
      rintro e w8 ⟨⟨ch,rfl,hf⟩,h8⟩;have h8:=h8.symm;subst h8;go_wp2;exact af _ _ _ ⟨rfl,bU.err ⟨82,cu.o⟩ (B7.o) ⟨ch,rfl,hf⟩⟩
theorem mB:∀d,vC d
 |0=>Mo
 |d+1=>Mr d (mB d) (Mk d (mB d))
structure Aside(g mb:Nat)(w w':World):Prop where
 os:w'.os=w.os
 tape:w'.tape=w.tape
 output:w'.output=w.output
 size:w.heap.size<=w'.heap.size
 block:∀b,b<w.heap.size->b≠g->b≠mb->w'.heap[b]? =w.heap[b]?
section
variable {g mb:Nat} {w w' w'':World}
theorem Aside.refl(g mb:Nat)(w:World):Aside g mb w w:=⟨rfl,rfl,rfl,n_,fun _ _ _ _=>rfl⟩
theorem Aside.trans(h:Aside g mb w w')(h2:Aside g mb w' w''):Aside g mb w w'':=
 ⟨h2.os.trans h.os,h2.tape.trans h.tape,h2.output.trans h.output,t_ h.size h2.size,fun b hb h1 h3=>(h2.block b (l_ hb h.size) h1 h3).trans (h.block b hb h1 h3)⟩
theorem Aside.of(h:Below w.heap.size w w'):Aside g mb w w':=⟨h.os,h.tape,h.output,h.size,fun b hb _ _=>h.block b hb⟩
theorem Aside.on(h:Aside g mb w w')(h2:Below w'.heap.size w' w''):Aside g mb w w'':=h.trans (Aside.of h2)
theorem Aside.grown(h:Aside g mb w w'){r:Nat}(hr:r=g\/r=mb)(hg:w'.grownBy w'' (some r)):Aside g mb w w'':=
 h.trans ⟨hg.os,hg.tape,hg.output,hg.size,fun b hb h1 h2=>hg.block b hb (fun e=>by
  injection e with e;subst e;rcases hr with rfl|rfl
  ·exact h1 rfl
  ·exact h2 rfl)⟩
theorem Aside.below(h:Aside g mb w w'){B:Nat}(hB:B<=w.heap.size)(h1:B<=g)(h2:B<=mb):Below B w w':=
 ⟨h.os,h.tape,h.output,h.size,fun b hb=>h.block b (by omega) (by omega) (by omega)⟩
theorem Aside.nu{α:Type}{E:aU α}{S:Nat->Prop}{A:Option Addr}{m:Nat}{xs:List α}(h:Aside g mb w w')(hl:bn E w S A m xs)(hS:∀b,S b->b<w.heap.size/\b≠g/\b≠mb):bn E w' S A m xs:=
 hl.keep (fun b hb=>hb) (fun p hp=>by
  have:=hS _ hp;have hb:=h.block _ this.1 this.2.1 this.2.2;unfold World.cell?;rw[hb])
theorem Aside.blk{b:Nat}{T:TypeId}{cs:Array Value}(h:Aside g mb w w')(hk:ar w b T cs)(h1:b≠g)(h2:b≠mb):ar w' b T cs:=(h.block b hk.lt h1 h2).trans hk
end
def eW(f:cy->Option Int)(D:Nat):Prop:=∀(k:Int) (name:ByteArray),(D:Int)<k->f (k,name)=none
theorem QL{f:cy->Option Int}{D:Nat}(h:eW f D)(name:ByteArray):dZ f name (D+1+1)=dZ f name (D+1):=by
 show(match f (((D+1:Nat):Int),name) with|some v=>some (v,((D+1:Nat):Int))|none=>dZ f name (D+1))=_
 rw[h _ name (by omega)]
theorem fD.up{f:cy->Option Int}{D:Nat}{env:List (ByteArray×Int)}(h:fD f D env)(hd:eW f D):fD f (D+1) env:=fun name=>by rw[h name,QL hd]
theorem eW.up{f:cy->Option Int}{D:Nat}(hd:eW f D):eW f (D+1):=fun k name hk=>hd k name (by omega)
def pZ(f:cy->Option Int)(x:cy)(v:Int):cy->Option Int:=fun y=>if y=x then some v else f y
theorem su{f:cy->Option Int}{x:cy}{v:Int}{name:ByteArray}(hne:name≠x.2):∀n,dZ (pZ f x v) name n=dZ f name n
 |0=>rfl
 |n+1=>by
  unfold dZ;rw[su hne n]
  have:pZ f x v ((n:Int),name)=f ((n:Int),name):=by
   unfold pZ;rw[if_neg (fun e=>hne (by rw[<-e]))]
  rw[this]
theorem fD.put{f:cy->Option Int}{D:Nat}{env:List (ByteArray×Int)}{name:ByteArray}{v:Int}(h:fD f D env)(hn:M.look name env=none):fD (pZ f ((D:Int),name) v) D (env++[(name,v)]):=fun y=>by
 rw[mg];by_cases he:y=name
 ·subst he
  rw[hn]
  have:dZ (pZ f ((D:Int),y) v) y (D+1)=some (v,(D:Int)):=by
   unfold dZ;simp[pZ]
  rw[this];simp[]
 ·rw[su he,<-h y]
  cases hl:M.look y env with
  |some u=>rfl
  |none=>
   have:M.bJ name y=false:=by
    cases hq:M.bJ name y with
    |false=>rfl
    |true=>exact absurd (iV.mp hq).symm he
   simp[Ne.symm he]
theorem eW.put{f:cy->Option Int}{D:Nat}{name:ByteArray}{v:Int}(hd:eW f D):eW (pZ f ((D:Int),name) v) D:=fun k y hk=>by
 unfold pZ;rw[if_neg (fun e=>by injection e with e1 e2;omega)];exact hd k y hk
def cE(D:Int)(f f':cy->Option Int):Prop:=∀(k:Int) (name:ByteArray),k<D->f' (k,name)=f (k,name)
theorem cE.refl(D:Int)(f:cy->Option Int):cE D f f:=fun _ _ _=>rfl
theorem cE.trans{D:Int}{f f' Z2:cy->Option Int}(h:cE D f f')(h2:cE D f' Z2):cE D f Z2:=fun k n hk=>(h2 k n hk).trans (h k n hk)
theorem cE.put{D:Int}{f f':cy->Option Int}(h:cE D f f'){name:ByteArray}{v:Int}:cE D f (pZ f' (D,name) v):=fun k n hk=>by
 unfold pZ;rw[if_neg (fun e=>by injection e with e1 e2;omega)];exact h k n hk
def vQ(w:World)(g mb D:Nat)(f:cy->Option Int)(dests:List ByteArray)(tables:List M.Table)(S:Nat->Prop)(r:Except Int (List (ByteArray×Int)))(e:Ending)(w':World):Prop:=
 Aside g mb w w'/\match r with
  | .ok cS=>e= .returned (.tuple #[])/\∃f',dh w' g mb D f' dests tables S/\fD f' D cS/\eW f' D/\cE D f f'
  | .error _=>∃ch,e= .panicked ch/\eR ch
theorem vQ.err{w w':World}{g mb D:Nat}{f:cy->Option Int}{dests:List ByteArray}{tables:List M.Table}{S:Nat->Prop}{r:Except Int (List (ByteArray×Int))}{e:Ending}(hr:∃x,r= .error x)(hb:Aside g mb w w')(he:∃ch,e= .panicked ch/\eR ch):vQ w g mb D f dests tables S r e w':=by
 obtain⟨x,rfl⟩:=hr;exact⟨hb,he⟩
theorem vQ.ok{w w':World}{g mb D:Nat}{f f':cy->Option Int}{dests:List ByteArray}{tables:List M.Table}{S:Nat->Prop}{r:Except Int (List (ByteArray×Int))}{cS:List (ByteArray×Int)}{e:Ending}(hr:r= .ok cS)(hb:Aside g mb w w')(he:e= .returned (.tuple #[]))(h1:dh w' g mb D f' dests tables S)(h2:fD f' D cS)(h3:eW f' D)(h4:cE D f f'):vQ w g mb D f dests tables S r e w':=by
 subst hr;exact⟨hb,he,f',h1,h2,h3,h4⟩
theorem dh.put{w w':World}{g mb D:Nat}{f f':cy->Option Int}{dests:List ByteArray}{tables:List M.Table}{S:Nat->Prop}(h:dh w g mb D f dests tables S)(hg:w.grownBy w' (some mb))(hm:Hl w' mb f')(hne:g≠mb)(hS:∀b,S b->b≠g/\b≠mb):dh w' g mb D f' dests tables S:=by
 obtain⟨dA,dc,tA,tc,h1,h2,h3,h4,h5⟩:=h.blk;have hk:∀p:Addr,S p.block->w'.cell? p=w.cell? p:=fun p hp=>World.cell?_of_block (hg.block _ (h.there _ hp) (fun e=>(hS _ hp).2 (by injection e)));exact⟨⟨dA,dc,tA,tc,h1.grown hg (fun e=>hne (by injection e)),h2,h3,h4.keep (fun _ h=>h) hk,h5.keep (fun _ h=>h) hk⟩,hm,fun b hb=>l_ (h.there b hb) hg.size,h.deep⟩
def Ym(d:Nat):Prop:=∀(t:M.Tree) (at_:Int) (g mb D:Nat) (f:cy->Option Int) (env:List (ByteArray×Int)) (dests:List ByteArray) (tables:List M.Table) (S N:Nat->Prop) (A:Option Addr) (c:Nat) (w:World),
 M.jP d 2 t=true->M.mh t->dh w g mb D f dests tables S->fD f D env->eW f D->g≠mb->(∀b,S b->b≠g/\b≠mb)->(∀b,N b->b<w.heap.size/\b≠g/\b≠mb)->D+d<=900->bX A (M.flat t).length c->bn ENode w N A (M.flat t).length (M.flat t)->
 Calls Tryz.prog 92 #[.pointer (some ⟨g,0,none⟩),.slice A (M.flat t).length c,.int .i64 at_] w (vQ w g mb D f dests tables S (M.bh dests (aG tables) d env t))
def Yn(d:Nat):Prop:=∀(t:M.Tree) (at_:Int) (g mb D:Nat) (f:cy->Option Int) (env:List (ByteArray×Int)) (dests:List ByteArray) (tables:List M.Table) (S N:Nat->Prop) (A:Option Addr) (c:Nat) (w:World),
 M.jP d 1 t=true->M.mh t->dh w g mb D f dests tables S->fD f D env->eW f D->g≠mb->(∀b,S b->b≠g/\b≠mb)->(∀b,N b->b<w.heap.size/\b≠g/\b≠mb)->D+d<=900->bX A (M.flat t).length c->bn ENode w N A (M.flat t).length (M.flat t)->
 Calls Tryz.prog 32 #[.pointer (some ⟨g,0,none⟩),.slice A (M.flat t).length c,.int .i64 at_] w (vQ w g mb D f dests tables S (M.bh dests (aG tables) d env t))
end Go.Proofs.YtpohlhkgbmdieaaGreatDoor
