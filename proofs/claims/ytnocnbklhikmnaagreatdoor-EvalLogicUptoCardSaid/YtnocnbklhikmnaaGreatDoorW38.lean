/- Part 38 of the proof. -/
import Derived.Test.YtnocnbklhikmnaaGreatDoorW24
import Derived.Test.YtnocnbklhikmnaaGreatDoorW30
import Derived.Test.YtnocnbklhikmnaaGreatDoorW32
set_option linter.unusedVariables false
set_option maxRecDepth 1000000
set_option maxHeartbeats 16000000
namespace Go.Proofs.YtnocnbklhikmnaaGreatDoor
variable{a b:Int}{env:List (ByteArray×Int)}{kl:List Int}{op:Int}{seg:Bool}{x:M.Node}
open Go Go.RowKit Go.BigFrame Go.Maps Go.WideMaps
theorem expr_zero:ExprOk 0:=by
 intro t seg at_ g mb D f env dests tables S A c w hT;simp[M.okT] at hT
theorem classOf_3(h:M.classOf op=3):7<=op/\op<=23:=by
 unfold M.classOf at h;split at h
 ·simp at h
 ·split at h
  ·simp at h
  ·split at h
   ·assumption
   ·simp at h
theorem right_bin(h:M.right x=true)(hb:M.isBin x.op=true)(h0:13<=x.op/\x.op<=21):x.n=2:=by
 unfold M.right at h;simp only[Bool.and_eq_true,Bool.or_eq_true,decide_eq_true_eq] at h;obtain⟨⟨⟨-,h1⟩,h2⟩,-⟩:=h;have e1:M.leastN x.op=2:=by unfold M.leastN;simp[hb];try omega
 have e2:M.mostN x.op=2:=by
  unfold M.mostN;rw[if_neg (by omega),if_neg (by omega),if_neg (by omega),if_pos hb]
 rw[e1] at h1;rw[e2] at h2;omega
theorem isBin_of(h:13<=op/\op<=21):M.isBin op=true:=by simp[M.isBin,h.1,h.2]
theorem opE_truth(h:x.op=13\/x.op=14\/x.op=22):M.opE env x kl seg=if all3 kl=true then .ok 3 else .error 82:=by
 unfold M.opE;rw[if_pos h];rfl
theorem opE_plus(h:x.op=21):M.opE env x [a,b] seg=if M.both a b=true then .ok a else .error 82:=by
 unfold M.opE;rw[if_neg (by omega),if_pos h];rfl
theorem opE_eq(h:x.op=15\/x.op=16):M.opE env x [a,b] seg=if a=b then .ok 3 else .error 82:=by
 unfold M.opE;rw[if_neg (by omega),if_neg (by omega),if_pos h];rfl
theorem opE_ord(h:17<=x.op/\x.op<=20):M.opE env x [a,b] seg=if M.both a b=true then .ok 3 else .error 82:=by
 unfold M.opE;rw[if_neg (by omega),if_neg (by omega),if_neg (by omega),if_pos h];rfl
theorem opE_path(h:x.op=11):M.opE env x kl seg=if seg=true\/0<x.path.fld then .ok 1 else .error 82:=by
 unfold M.opE;rw[if_neg (by omega),if_neg (by omega),if_neg (by omega),if_neg (by omega),if_pos h]
theorem opE_name(h:x.op=12):M.opE env x kl seg=match M.look x.text env with|some k=> .ok k|none=> .error 92:=by
 unfold M.opE;rw[if_neg (by omega),if_neg (by omega),if_neg (by omega),if_neg (by omega),if_neg (by omega),if_pos h];cases M.look x.text env<;>rfl
theorem opE_8(h:x.op=8):M.opE env x kl seg= .ok 2:=by
 unfold M.opE;rw[if_neg (by omega),if_neg (by omega),if_neg (by omega),if_neg (by omega),if_neg (by omega),if_neg (by omega),if_pos h]
theorem opE_7(h:x.op=7):M.opE env x kl seg= .ok 1:=by
 unfold M.opE;rw[if_neg (by omega),if_neg (by omega),if_neg (by omega),if_neg (by omega),if_neg (by omega),if_neg (by omega),if_neg (by omega),if_pos h]
theorem opE_9(h:x.op=9\/x.op=10):M.opE env x kl seg= .ok 3:=by
 unfold M.opE;rw[if_neg (by omega),if_neg (by omega),if_neg (by omega),if_neg (by omega),if_neg (by omega),if_neg (by omega),if_neg (by omega),if_neg (by omega)]
theorem twoK_cells{T:TypeId}{w:World}{B:Nat}{v:Value}(h:OwnE EIntU T w B (fun _=>False) v [a,b]):∃g c,v= .slice (some ⟨g,0,none⟩) 2 c/\w.cell? ⟨g,0,none⟩=some (.int .i64 a)/\w.cell? ⟨g,1,none⟩=some (.int .i64 b)/\g<w.heap.size:=by
 obtain⟨g,c,x0,u0,e0,hx0,hr0,hc0,-,-⟩:=h.in1 (k:=0) rfl (by simp);obtain⟨g1,c1,x1,u1,e1,hx1,hr1,hc1,-,-⟩:=h.in1 (k:=1) rfl (by simp);simp at hx0 hx1;subst hx0 hx1;obtain⟨z0,-⟩:=hr0;obtain⟨z1,-⟩:=hr1;simp at z0 z1;subst z0 z1;rw[e0] at e1;injection e1 with e1;injection e1 with e1;injection e1 with e1;subst e1;exact⟨g,c,e0,hc0,hc1,(h.own_lt (g:=g) (by rw[e0];rfl)).2⟩
theorem findN_nonneg{f:KKey->Option Int}{name:ByteArray}:∀{n:Nat} {v k:Int},findN f name n=some (v,k)->0<=k
 |0,v,k,h=>by simp[findN] at h
 |n+1,v,k,h=>by
  unfold findN at h;split at h
  ·simp at h
   omega
  ·exact findN_nonneg h
theorem two_of(h:kl.length=2):∃a b,kl=[a,b]:=by
 match kl,h with
 |[a,b],_=>exact⟨a,b,rfl⟩
theorem cexpr_any(d:Nat)(ih:ExprOk d)(hcall:CallOk d):ExprOk (d+1):=by
 intro t seg at_ g mb D f env dests tables S A c w hT hwf hck henv hok hl;cases t with
 |mk x ks=>
 have hm:=hok.le;obtain⟨htop1,htop2,htop3⟩:=okT_top hT;have hcls:=classOf_3 htop1;have hfl:M.flat (.mk x ks)=x::M.flats ks:=by unfold M.flat;rfl
 have HK:=q_ hck;have HENV:=q_ henv;have HWF:=q_ hwf;have HOK:=q_ hok;have HL:=q_ hl;have HT:=q_ hT;have IH:=q_ ih;have HC:=q_ hcall;have HSW:=q_ hck.there;have hl0:=(hl.below ((Below.refl _ w).alloc (n_) (.cells #[.int .i64 at_] 3)) hck.there)
 rw[hfl] at hl0;obtain⟨ad,rfl,hbS,hx64,e0,he⟩:=node_open hl0;have hts:x.text.size<=1048576:=hx64.2.2.1;have hpos:=M.flat_pos (.mk x ks);have e1:=he 0 _ rfl;have e2:=he 1 _ rfl;have e3:=he 2 _ rfl;have e4:=he 3 _ rfl;have e5:=he 4 _ rfl;have e6:=he 5 _ rfl;have e7:=he 6 _ rfl;have e8:=he 7 _ rfl;have e9:=he 8 _ rfl
 have hnl:ks.length<=1048576:=by
  have h1:=M.flats_len ks;have h2:(M.flat (.mk x ks)).length=(M.flats ks).length+1:=by rw[hfl];rfl
  omega
 have HR:=q_ htop2;have HN3:=q_ htop3;have HCLS:=q_ hcls;have WANTED:=q_ (show∀k:Nat,M.wanted x k=3 by intro k;unfold M.wanted;rw[if_neg (by omega),if_neg (by omega)]);have HWFL:=q_ (show M.wfL ks by unfold M.wfT at hwf;exact hwf.2);generalize hfm:(M.flat (.mk x ks)).length=m at*;clear hl0 hl he hck henv hwf hok hT ih hcall hfl htop1 htop2 htop3 hcls;obtain⟨w1,hw1⟩:∃w1,w1=w.alloc (.cells #[.int .i64 at_] 3):=⟨_,rfl⟩
 rw[<-hw1] at e0 e1 e2 e3 e4 e5 e6 e7 e8 e9;have s1:w1.heap.size=w.heap.size+1:=by rw[hw1];simp
 obtain⟨w2,hw2⟩:∃w2,w2=w1.alloc (.cells #[.int .i64 x.op,.int .i64 x.n,.string x.text,.int .i64 x.num,.string x.path.seg,.int .i64 x.path.occ,.int .i64 x.path.fld,.int .i64 x.path.rep,.int .i64 x.path.comp,.int .i64 x.path.sub] 144):=⟨_,rfl⟩
 have K6:=q_ (show Blk w2 w.heap.size 3 #[.int .i64 at_] from hw2▸(show Blk w1 w.heap.size 3 #[.int .i64 at_] from hw1▸Blk.new w _ _).alloc _);have K9:=q_ (show Blk w2 (w.heap.size+1) 144 #[.int .i64 x.op,.int .i64 x.n,.string x.text,.int .i64 x.num,.string x.path.seg,.int .i64 x.path.occ,.int .i64 x.path.fld,.int .i64 x.path.rep,.int .i64 x.path.comp,.int .i64 x.path.sub] from hw2▸s1▸Blk.new w1 _ _);have B2:=q_ (show Below w.heap.size w w2 from hw2▸(hw1▸(Below.refl _ w).alloc (n_) _:Below w.heap.size w w1).alloc (by omega) _);have s2:w2.heap.size=w.heap.size+2:=by rw[hw2];simp;omega
 have HS2:=q_ (fun b (h:S b)=>Nat.lt_of_lt_of_le (HSW.o b h) B2.o.size);have CK2:=q_ (HK.o.below B2.o);go_enter Tryz.func24,Tryz.ntmps24;have hw1':=hw1.symm;have hw2':=hw2.symm;clear hw1 hw2;by_cases hop:x.op=23
 ·have CC:=q_ (HC.o x ks seg at_ g mb D f env dests tables S (some ad) c w2 HT.o HWF.o hop CK2.o HENV.o (hfm▸HOK.o) (hfm▸HL.o.below B2.o HSW.o))
  have q0:(x.op==23)=true:=by simp[hop]
  have z6:=fun i=>K6.o.cell i;have z9:=fun i=>K9.o.cell i;rw[hfm] at CC;clear hop;go_wp2_with fail;refine CC.o.mono ?_;rintro e w3 ⟨hb3,he⟩;cases hr:M.kindE (tnames tables) env (d+1) seg (.mk x ks) with
  |error er=>
   rw[hr] at he;obtain⟨ch,rfl,hf⟩:=he;go_wp2;exact⟨rfl,B2.o.trans (hb3.mono B2.o.size),ch,rfl,hf⟩
  |ok kk=>
   rw[hr] at he;obtain rfl:=he;go_wp2;go_ret;exact ExprP.ok hr (B2.o.trans (hb3.mono B2.o.size)) rfl
 ·have hHM:M.kindE (tnames tables) env (d+1) seg (.mk x ks)=match M.kindsL (M.kindE (tnames tables) env d false) ks with
   | .error e=> .error e
   | .ok kinds=>M.opE env x kinds seg:=by
   conv=>lhs;unfold M.kindE
   rw[if_neg hop];rfl
  have HM:=q_ hHM;have HOP:=q_ hop;have q0:(x.op==23)=false:=by simp[hop]
  clear hHM hop;have z6:=fun i=>K6.o.cell i;have z9:=fun i=>K9.o.cell i;have KP:=q_ (parts_any x ks HWF.o (some ad) m c S w2 HS2.o HOK.o (HL.o.below B2.o HSW.o));go_wp2_with fail;refine KP.o.mono ?_;rintro e w3 ⟨A1,c1,A2,c2,rfl,hk1,hk2,hl1,hl2,hb3⟩;have B3:=q_ (B2.o.trans (hb3.mono B2.o.size));have K63:=q_ (K6.o.below hb3 K6.o.lt);have K93:=q_ (K9.o.below hb3 K9.o.lt);have P1:=q_ hl1;have P2:=q_ hl2;have SW:=q_ (show∀b,(S b\/New w2 w3 b)->b<w3.heap.size from fun b h=>h.elim (fun h=>Nat.lt_of_lt_of_le (HS2.o b h) hb3.size) (fun h=>h.2));have hs3:=hb3.size;clear hk1 hk2 hl1 hl2 hb3 hw1' hw2' e0 e1 e2 e3 e4 e5 e6 e7 e8 e9 z6 z9;obtain⟨F,hF⟩:∃F,F=M.kindE (tnames tables) env d false:=⟨_,rfl⟩
  have HF:=q_ hF;obtain⟨w4,hw4⟩:∃w4,w4=w3.alloc (.cells #[.slice none 0 0] 147):=⟨_,rfl⟩
  have s4:w4.heap.size=w3.heap.size+1:=by rw[hw4];simp
  have K12:=q_ (show Blk w4 w3.heap.size 147 #[.slice none 0 0] from hw4▸Blk.new w3 _ _);have S34:=q_ (show Below w3.heap.size w3 w4 from hw4▸Stays.alloc _ _);obtain⟨it2,hit2,hz2,hs2,hb2⟩:=info_parts info_i64;have I1:=q_ hit2;have I2:=q_ hz2;have I3:=q_ hs2;have I4:=q_ hb2;clear hF hit2 hz2 hs2 hb2;go_wp2_with fail;rw[<-hw4];clear hw4;go_loopw [35] (fun y wr=>∃(k:Nat) (kl:List Int) (v:Value),k<=ks.length/\y= .int .i64 k/\Blk wr w3.heap.size 147 #[v]/\OwnE EIntU 3 wr (w3.heap.size+1) (fun _=>False) v kl/\kl.length=k/\(∀(j:Nat) (t:M.Tree),j<k->ks[j]? =some t->∃kk,kl[j]? =some kk/\F t= .ok kk)/\Below w3.heap.size w3 wr/\w4.heap.size<=wr.heap.size) (fun y _=>ks.length-(intOf y).toNat)
  case atStart=>exact⟨0,[],_,by omega,rfl,K12.o,OwnE.nil (fun b hb=>hb.elim),rfl,(fun j t hj=>by omega),S34.o,n_⟩
  case round=>
   obtain⟨k,kl,v,hk,rfl,hv,hown,hkl,hall,hb,hz⟩:=hrel;have V12:=q_ hv;have OW:=q_ hown;have HALL:=q_ hall;have HB:=q_ hb;have HKL:=q_ hkl;have BR:=q_ (B3.o.trans (hb.mono B3.o.size));have hsr:=hb.size;have K6R:=q_ (K63.o.below hb K63.o.lt);have K9R:=q_ (K93.o.below hb K93.o.lt);clear hown hall hb hkl hv;by_cases hlt:k<ks.length
   ·have q1:decide ((k:Int)<(ks.length:Int))=true:=by simp;omega
    obtain⟨t,htk⟩:∃t,ks[k]? =some t:=⟨_,List.getElem?_eq_getElem hlt⟩
    obtain⟨a1,y1,u1,rfl,hbS1,hy1,hr1,hc1⟩:=(P1.o.below HB.o SW.o).in1 rfl hlt;rw[List.getElem?_map,htk] at hy1;cases hy1;obtain⟨At,ct,rfl,hokt,hlt1⟩:=Enc.list_inv (E:=ENode) hr1;obtain⟨a2,y2,u2,rfl,hbS2,hy2,hr2,hc2⟩:=(P2.o.below HB.o (fun b h=>h.2)).in1 rfl hlt;obtain⟨e2,-⟩:=hr2;simp at e2;subst e2;have hkid:=okT_kid HT.o htk;rw[show M.wanted x k=3 from WANTED.o k] at hkid;have KE:=q_ (fun(W:World) (h:Below wr.heap.size wr W) (z:Int)=>IH.o t false z g mb D f env dests tables (fun b=>S b\/New w2 w3 b) At ct W hkid (M.wfL_get (show M.wfL ks from HWFL.o) htk) (((HK.o.below BR.o).wide (fun b h=> .inl h) (fun b h=>by have:=SW.o b h;omega)).below h) HENV.o hokt (hlt1.below h (fun b h=>by have:=SW.o b h;omega)));rw[<-HF.o] at KE;have HBS2:=q_ (show a2.block<wr.heap.size from by have:=hbS2.2;omega);clear hr1 hlt1;cases hFt:F t with
    |error er=>
     have HERR:=q_ (show∃z,M.kindE (tnames tables) env (d+1) seg (.mk x ks)= .error z by
      obtain⟨z,hz⟩:=kindsL_err F ks k t er htk hFt;rw[HF.o] at hz;exact⟨z,by rw[HM.o,hz]⟩)
     clear htk;go_wp2_with fail;refine wp_region_genP (KP:=fun ch w5=>FaultP ch/\Below w.heap.size w w5) 11 [] (ErrI wr 9) (by kernel_rfl) (by kernel_rfl) (ErrI.start wr 9) (fun ch a2 w5 hd hk=>⟨hd,ExprP.err HERR.o hk.2 ⟨ch,rfl,hk.1⟩⟩) ?_
     iterate 9
      apply wpGenP_pure rfl
      ·intro L vs wx hI hR hL K hK
       first
       |have c0:=fun i=>(V12.o.below hI.below V12.o.lt).cell i
        go_simp;exact hK _ (hI.pure (by decide))
       |have c0:=fun i=>(K6R.o.below hI.below K6R.o.lt).cell i
        go_simp;exact hK _ (hI.pure (by decide))
       |have c0:=(hI.below.cell (p:=a2.add k) (by rw[block_of_add];exact HBS2.o)).trans hc2
        go_simp;exact hK _ (hI.pure (by decide))
      intro KK hKK;go_simp;refine hKK _ ?_;clear hKK KK
     refine wpGenP_pure (v:= .int .i64 0) rfl ?_ ?_
     ·intro L vs wx hI hR hL K hK
      go_simp;exact((KE.o wx hI.below _).mono fun e w' ⟨hb,he⟩=> .inr (by rw[hFt] at he;obtain⟨ch,rfl,hf⟩:=he;exact⟨ch,rfl,hf,BR.o.trans ((hI.below.trans (hb.mono hI.below.size)).mono BR.o.size)⟩))
     intro KK hKK;go_simp;refine hKK _ ?_;clear hKK KK;refine wpGenP_pure (v:= .int .i64 0) rfl (fun L vs wx hI hR=>absurd (hR 9 (by kernel_rfl)) (by rw[hI.no];simp)) ?_;intro KK hKK;refine hKK _ ?_;clear hKK KK;refine wpGenP_nil ?_;intro vs w5 hI;exact absurd hI.no (by decide)
    |ok kk=>
     have HTK:=q_ htk;have HFT:=q_ hFt;clear htk;go_wp2_with fail;refine wp_region_genP (KP:=fun _ _=>False) 11 [10] (OneI wr 10 3 #[.int .i64 kk]) (by kernel_rfl) (by kernel_rfl) (OneI.start wr) (fun ch a2 w5 hd hk=>hk.elim) ?_
     iterate 9
      apply wpGenP_pure rfl
      ·intro L vs wx hI hR hL K hK
       first
       |have c0:=fun i=>(V12.o.below hI.below V12.o.lt).cell i
        go_simp;exact hK _ (hI.pure (by decide))
       |have c0:=fun i=>(K6R.o.below hI.below K6R.o.lt).cell i
        go_simp;exact hK _ (hI.pure (by decide))
       |have c0:=(hI.below.cell (p:=a2.add k) (by rw[block_of_add];exact HBS2.o)).trans hc2
        go_simp;exact hK _ (hI.pure (by decide))
      intro KK hKK;go_simp;refine hKK _ ?_;clear hKK KK
     refine wpGenP_pure (v:= .int .i64 kk) rfl ?_ ?_
     ·intro L vs wx hI hR hL K hK
      go_simp;exact(KE.o wx hI.below _).mono fun e w' ⟨hb,he⟩=>⟨_,(show e= .returned (.int .i64 kk) by rw[hFt] at he;exact he),hK _ (hI.move hb (by decide))⟩
     intro KK hKK;go_simp;refine hKK _ ?_;clear hKK KK;refine wpGenP_fact rfl ?_ ?_
     ·intro L vs wx hI hR hL K hK
      go_simp;exact hK _ _ hI.make
     intro KK hKK;go_simp;refine hKK _ ?_;clear hKK KK;refine wpGenP_nil ?_;intro vs w5 hI;obtain⟨g5,hg5,hge5,hk5⟩:=hI.blk (by decide);have S5:=q_ hI.below;have K5:=q_ hk5;have hs5:=hI.below.size;intro KK hKK;have hKN:=fun a w h=>hKK .normal a w h;clear hKK;rw[hg5];clear hI hg5 hk5;simp only[List.drop_succ_cons];have O5:=q_ (OW.o.below S5.o);have V5:=q_ (V12.o.below S5.o V12.o.lt);have hkl2:kl.length<=1048576:=by have:=HKL.o;omega
     refine wpList_append_E rfl (.tmp 40) (.tmp 50) _ rfl it2 (.int .i64 0) 8 Tryz.underlying147 I1.o I2.o I3.o I4.o rfl rfl O5.o ⟨g5,0,none⟩ 1 1 [kk] rfl rfl (news_blk K5.o ⟨rfl,trivial⟩) (by omega) (by omega) (by omega) ?_;intro o6 w6 hown6 hb6 hg6 _;have hne:=OwnE.ne_blk O5.o V5.o (by decide);have V6:=q_ (V5.o.grown hg6 (fun e=>hne e.symm));have O6:=q_ hown6;have S6:=q_ (show Below w3.heap.size w3 w6 from(HB.o.trans (S5.o.mono HB.o.size)).trans (hb6.mono (by omega)));have hs6:=hb6.size
     have HA6:=q_ (show∀(j:Nat) (t:M.Tree),j<k+1->ks[j]? =some t->∃z,(kl++[kk])[j]? =some z/\F t= .ok z from fun j t' hj ht'=>by
      rcases Nat.lt_or_ge j k with h1|h1
      ·obtain⟨z,hz1,hz2⟩:=HALL.o j t' h1 ht'
       exact⟨z,by rw[List.getElem?_append_left (by have:=HKL.o;omega)];exact hz1,hz2⟩
      ·obtain rfl:j=k:=by omega
       rw[HTK.o] at ht';cases ht';exact⟨kk,by rw[List.getElem?_append_right (by have:=HKL.o;omega),HKL.o];simp,HFT.o⟩)
     have hne6:=OwnE.ne_blk O6.o V6.o (by decide);clear hown6 hb6 hg6 hne;go_wp2_with (refine wpList_store_one rfl 147 (.tmp 12) (.tmp 51) rfl w3.heap.size 0 o6 (by rfl) (by rfl) V6.o (by simp) (by kernel_rfl) (by obtain⟨A6,c6,e⟩:=O6.o.shape;rw[e];rfl) ?_;intro w7 hk7 hg7;have V7:=q_ (show Blk w7 w3.heap.size 147 #[o6] from hk7);have O7:=q_ (O6.o.grownAt hg7 (by simpa using hne6) (fun h=>h));have S7:=q_ (below_gr S6.o hg7 (by omega));have s7:=hg7.size;clear hk7 hg7);go_roundw
     case rel=>exact⟨k+1,kl++[kk],o6,by omega,by go_num,V7.o,O7.o,by rw[List.length_append,HKL.o];rfl,HA6.o,S7.o,by omega⟩
     case measure=>simp[intOf];omega
   ·have hkk:k=ks.length:=by omega
    have HALLK:=q_ (kindsL_ok F ks kl (by rw[HKL.o,hkk]) (fun j t hj=>HALL.o j t (by
     have:=(List.getElem?_eq_some_iff.mp hj).1;omega) hj))
    have HME:=q_ (show M.kindE (tnames tables) env (d+1) seg (.mk x ks)=M.opE env x kl seg by rw[HM.o,<-HF.o,HALLK.o]);have hkl2:kl.length<=1048576:=by have:=HKL.o;omega
    have q1:decide ((k:Int)<(ks.length:Int))=false:=by simp;omega
    have CKR:=q_ (HK.o.below BR.o)
    have TWO:=q_ (show 13<=x.op/\x.op<=21->kl.length=2 from fun h=>by
     have h1:=right_bin HR.o (isBin_of h) h;have h2:=HN3.o;have h3:=HKL.o;omega)
    have z6:=fun i=>K6R.o.cell i;have z9:=fun i=>K9R.o.cell i;have z12:=fun i=>V12.o.cell i
    have hcases:x.op=7\/x.op=8\/(x.op=9\/x.op=10)\/x.op=11\/x.op=12\/(x.op=13\/x.op=14\/x.op=22)\/(x.op=15\/x.op=16)\/(x.op=17\/x.op=18\/x.op=19\/x.op=20)\/x.op=21:=by
     have:=HCLS.o;have:=HOP.o;omega
    have QN:=q_ hcases;clear hcases q0;have hcases:=QN.o;clear QN;rcases hcases with hop|hop|hop|hop|hop|hop|hop|hop|hop
    ·have LAW:=q_ (HME.o.trans (opE_7 hop))
     go_wp2;go_ret;exact ExprP.ok LAW.o BR.o rfl
    ·have LAW:=q_ (HME.o.trans (opE_8 hop))
     go_wp2;go_ret;exact ExprP.ok LAW.o BR.o rfl
    ·have LAW:=q_ (HME.o.trans (opE_9 hop))
     rcases hop with hop|hop
     ·go_wp2
      go_ret;exact ExprP.ok LAW.o BR.o rfl
     ·go_wp2
      go_ret;exact ExprP.ok LAW.o BR.o rfl
    ·have LAW:=q_ (HME.o.trans (opE_path hop))
     cases seg with
     |true=>
      go_wp2_with fail;refine(want_yes 82 _ _).mono ?_
      rintro e w8 ⟨rfl,h8⟩;have h8:=h8.symm;subst h8;go_wp2;go_ret;exact ExprP.ok (LAW.o.trans (by simp)) BR.o rfl
     |false=>
      by_cases hfl:0<x.path.fld
      ·have q7:decide (0<x.path.fld)=true:=by simp[hfl]
       have HFL:=q_ hfl;clear hfl;go_wp2_with fail;refine(want_yes 82 _ _).mono ?_
       rintro e w8 ⟨rfl,h8⟩;have h8:=h8.symm;subst h8;go_wp2;go_ret;exact ExprP.ok (LAW.o.trans (by simp[HFL.o])) BR.o rfl
      ·have q7:decide (0<x.path.fld)=false:=by simp;omega
       have HFL:=q_ hfl;clear hfl;go_wp2_with fail;refine(want_no 82 _ (by decide) _).mono ?_
       rintro e w8 ⟨⟨ch,rfl,hf⟩,h8⟩;have h8:=h8.symm;subst h8;go_wp2;exact⟨rfl,ExprP.err ⟨82,LAW.o.trans (by have:=HFL.o;simp[this])⟩ (BR.o) ⟨ch,rfl,hf⟩⟩
    ·have LAW:=q_ (HME.o.trans (opE_name hop))
     obtain⟨dA,dc,tA,tc,hg,hd1,hd2,hd3,hd4⟩:=CKR.o.blk;have FD:=q_ (find_any g mb D f _ _ x.text wr CKR.o.deep hg CKR.o.map hts);have LK:=q_ (HENV.o x.text);clear hd3 hd4 hg;go_wp2_with fail;refine FD.o.mono ?_;rintro e w7 ⟨rfl,hb7⟩;have B7:=q_ (BR.o.trans (hb7.mono BR.o.size));have K67:=q_ (K6R.o.below hb7 K6R.o.lt);have z67:=fun i=>K67.o.cell i;clear hb7;unfold findV;cases hfn:findN f x.text (D+1) with
     |none=>
      have HFN:=q_ hfn;clear hfn;go_wp2_with fail;refine(want_no 92 _ (by decide) _).mono ?_
      rintro e w8 ⟨⟨ch,rfl,hf⟩,h8⟩;have h8:=h8.symm;subst h8;go_wp2;exact⟨rfl,ExprP.err ⟨92,LAW.o.trans (by rw[LK.o,HFN.o];rfl)⟩ (B7.o) ⟨ch,rfl,hf⟩⟩
     |some p=>
      obtain⟨kv,dd⟩:=p;have HFN:=q_ hfn;have hdd:=findN_nonneg hfn;have q7:decide (0<=dd)=true:=by simp[hdd]
      have q8:decide (dd>=0)=true:=by simp[hdd]
      clear hfn;go_wp2_with fail;refine(want_yes 92 _ _).mono ?_
      rintro e w8 ⟨rfl,h8⟩;have h8:=h8.symm;subst h8;go_wp2;go_ret;exact ExprP.ok (LAW.o.trans (by rw[LK.o,HFN.o];rfl)) B7.o rfl
    ·have LAW:=q_ (HME.o.trans (opE_truth hop))
     obtain⟨A',c',rfl⟩:=OW.o.shape;obtain⟨hok2,hl2⟩:=OW.o.toLAt hkl2;have TR:=q_ (truth_any w3.heap.size w.heap.size at_ kl A' c' _ wr V12.o hl2 K6R.o hkl2);clear hok2 hl2;rcases hop with hop|hop|hop
     all_goals
      go_wp2_with fail;refine TR.o.mono ?_;rintro e w7 ⟨ht,h7⟩;have h7:=h7.symm;subst h7;unfold TruthP at ht;by_cases h3:all3 kl=true
      ·rw[if_pos h3] at ht
       have LAW2:=q_ (LAW.o.trans (if_pos h3));obtain rfl:=ht;clear h3;go_wp2;go_ret;exact ExprP.ok LAW2.o BR.o rfl
      ·rw[if_neg h3] at ht
       have LAW2:=q_ (LAW.o.trans (if_neg h3));obtain⟨ch,rfl,hf⟩:=ht;clear h3;go_wp2;exact⟨rfl,ExprP.err ⟨82,LAW2.o⟩ BR.o ⟨ch,rfl,hf⟩⟩
    ·have HOPX:=q_ hop
     obtain⟨ka,kb,rfl⟩:=two_of (TWO.o (by omega));obtain⟨gK,cK,rfl,hc0,hc1,hgK⟩:=twoK_cells OW.o;have LAW:=q_ (HME.o.trans (opE_eq (by omega)));rcases hop with hop|hop
     all_goals
      clear z12;go_wp2_with fail;refine wp_region_genP (KP:=fun _ _=>False) 8 [] (ErrI wr 100) (by kernel_rfl) (by kernel_rfl) (ErrI.start wr 100) (fun ch a2 w5 hd hk=>hk.elim) ?_
      iterate 8
       apply wpGenP_pure rfl
       ·intro L vs wx hI hR hL K hK
        first
        |have c0:=fun i=>(V12.o.below hI.below V12.o.lt).cell i
         go_simp;exact hK _ (hI.pure (by decide))
        |have c0:=(hI.below.cell (p:=⟨gK,0,none⟩) hgK).trans hc0
         go_simp;exact hK _ (hI.pure (by decide))
        |have c0:=(hI.below.cell (p:=⟨gK,1,none⟩) hgK).trans hc1
         go_simp;exact hK _ (hI.pure (by decide))
        |have c0:=fun i=>(K6R.o.below hI.below K6R.o.lt).cell i
         go_simp;exact hK _ (hI.pure (by decide))
       intro KK hKK;go_simp;refine hKK _ ?_;clear hKK KK
      refine wpGenP_nil ?_;intro vs w7 hI;have B7:=q_ (BR.o.trans (hI.below.mono BR.o.size));have V7:=q_ (V12.o.below hI.below V12.o.lt);have c7:=(hI.below.cell (p:=⟨gK,0,none⟩) hgK).trans hc0;clear hI;intro KK hKK;have hKN:=fun a w h=>hKK .normal a w h;simp only[List.drop_succ_cons];have v7:=fun i=>V7.o.cell i;by_cases hq:ka=kb
      ·have LAW2:=q_ (LAW.o.trans (if_pos hq))
       have q7:(ka==kb)=true:=by simp[hq]
       have HQ:=q_ hq;clear hq;go_wp2_with fail;refine(want_yes 82 _ _).mono ?_
       rintro e w8 ⟨rfl,h8⟩;have h8:=h8.symm;subst h8;go_wp2;go_ret;exact ExprP.ok LAW2.o B7.o rfl
      ·have LAW2:=q_ (LAW.o.trans (if_neg hq))
       have q7:(ka==kb)=false:=by simp[hq]
       have HQ:=q_ hq;clear hq;go_wp2_with fail;refine(want_no 82 _ (by decide) _).mono ?_
       rintro e w8 ⟨⟨ch,rfl,hf⟩,h8⟩;have h8:=h8.symm;subst h8;go_wp2;exact hKK _ _ _ ⟨rfl,ExprP.err ⟨82,LAW2.o⟩ (B7.o) ⟨ch,rfl,hf⟩⟩
    ·have HOPX:=q_ hop
     obtain⟨ka,kb,rfl⟩:=two_of (TWO.o (by omega));obtain⟨gK,cK,rfl,hc0,hc1,hgK⟩:=twoK_cells OW.o;have LAW:=q_ (HME.o.trans (opE_ord (by omega)));rcases hop with hop|hop|hop|hop
     all_goals
      clear z12;go_wp2_with fail;refine wp_region_genP (KP:=fun _ _=>False) 8 [] (ErrI wr 100) (by kernel_rfl) (by kernel_rfl) (ErrI.start wr 100) (fun ch a2 w5 hd hk=>hk.elim) ?_
      iterate 8
       apply wpGenP_pure rfl
       ·intro L vs wx hI hR hL K hK
        first
        |have c0:=fun i=>(V12.o.below hI.below V12.o.lt).cell i
         go_simp;exact hK _ (hI.pure (by decide))
        |have c0:=(hI.below.cell (p:=⟨gK,0,none⟩) hgK).trans hc0
         go_simp;exact hK _ (hI.pure (by decide))
        |have c0:=(hI.below.cell (p:=⟨gK,1,none⟩) hgK).trans hc1
         go_simp;exact hK _ (hI.pure (by decide))
        |have c0:=fun i=>(K6R.o.below hI.below K6R.o.lt).cell i
         go_simp;exact hK _ (hI.pure (by decide))
        |go_simp
         exact(both_any ka kb wx).mono fun e w' ⟨h1,h2⟩=>⟨_,h1,by rw[h2];exact hK _ (hI.pure (by decide))⟩
       intro KK hKK;go_simp;refine hKK _ ?_;clear hKK KK
      refine wpGenP_nil ?_;intro vs w7 hI;have B7:=q_ (BR.o.trans (hI.below.mono BR.o.size));have V7:=q_ (V12.o.below hI.below V12.o.lt);have c7:=(hI.below.cell (p:=⟨gK,0,none⟩) hgK).trans hc0;clear hI;intro KK hKK;have hKN:=fun a w h=>hKK .normal a w h;simp only[List.drop_succ_cons];have v7:=fun i=>V7.o.cell i;by_cases hq:M.both ka kb=true
      ·have LAW2:=q_ (LAW.o.trans (if_pos hq))
       have q7:M.both ka kb=true:=by simp[hq]
       have HQ:=q_ hq;clear hq;go_wp2_with fail;refine(want_yes 82 _ _).mono ?_
       rintro e w8 ⟨rfl,h8⟩;have h8:=h8.symm;subst h8;go_wp2;go_ret;exact ExprP.ok LAW2.o B7.o rfl
      ·have LAW2:=q_ (LAW.o.trans (if_neg hq))
       have q7:M.both ka kb=false:=by simp[hq]
       have HQ:=q_ hq;clear hq;go_wp2_with fail;refine(want_no 82 _ (by decide) _).mono ?_
       rintro e w8 ⟨⟨ch,rfl,hf⟩,h8⟩;have h8:=h8.symm;subst h8;go_wp2;exact hKK _ _ _ ⟨rfl,ExprP.err ⟨82,LAW2.o⟩ (B7.o) ⟨ch,rfl,hf⟩⟩
    ·have HOPX:=q_ hop
     obtain⟨ka,kb,rfl⟩:=two_of (TWO.o (by omega));obtain⟨gK,cK,rfl,hc0,hc1,hgK⟩:=twoK_cells OW.o;have LAW:=q_ (HME.o.trans (opE_plus (by omega)));clear z12;go_wp2_with fail;refine wp_region_genP (KP:=fun _ _=>False) 8 [] (ErrI wr 100) (by kernel_rfl) (by kernel_rfl) (ErrI.start wr 100) (fun ch a2 w5 hd hk=>hk.elim) ?_
     iterate 8
      apply wpGenP_pure rfl
      ·intro L vs wx hI hR hL K hK
       first
       |have c0:=fun i=>(V12.o.below hI.below V12.o.lt).cell i
        go_simp;exact hK _ (hI.pure (by decide))
       |have c0:=(hI.below.cell (p:=⟨gK,0,none⟩) hgK).trans hc0
        go_simp;exact hK _ (hI.pure (by decide))
       |have c0:=(hI.below.cell (p:=⟨gK,1,none⟩) hgK).trans hc1
        go_simp;exact hK _ (hI.pure (by decide))
       |have c0:=fun i=>(K6R.o.below hI.below K6R.o.lt).cell i
        go_simp;exact hK _ (hI.pure (by decide))
       |go_simp
        exact(both_any ka kb wx).mono fun e w' ⟨h1,h2⟩=>⟨_,h1,by rw[h2];exact hK _ (hI.pure (by decide))⟩
      intro KK hKK;go_simp;refine hKK _ ?_;clear hKK KK
     refine wpGenP_nil ?_;intro vs w7 hI;have B7:=q_ (BR.o.trans (hI.below.mono BR.o.size));have V7:=q_ (V12.o.below hI.below V12.o.lt);have c7:=(hI.below.cell (p:=⟨gK,0,none⟩) hgK).trans hc0;clear hI;intro KK hKK;have hKN:=fun a w h=>hKK .normal a w h;simp only[List.drop_succ_cons];have v7:=fun i=>V7.o.cell i;by_cases hq:M.both ka kb=true
     ·have LAW2:=q_ (LAW.o.trans (if_pos hq))
      have q7:M.both ka kb=true:=by simp[hq]
      have HQ:=q_ hq;clear hq;go_wp2_with fail;refine(want_yes 82 _ _).mono ?_
      rintro e w8 ⟨rfl,h8⟩;have h8:=h8.symm;subst h8;go_wp2;go_ret;exact ExprP.ok LAW2.o B7.o rfl
     ·have LAW2:=q_ (LAW.o.trans (if_neg hq))
      have q7:M.both ka kb=false:=by simp[hq]
      have HQ:=q_ hq;clear hq;go_wp2_with fail;refine(want_no 82 _ (by decide) _).mono ?_
      rintro e w8 ⟨⟨ch,rfl,hf⟩,h8⟩;have h8:=h8.symm;subst h8;go_wp2;exact hKK _ _ _ ⟨rfl,ExprP.err ⟨82,LAW2.o⟩ (B7.o) ⟨ch,rfl,hf⟩⟩
end Go.Proofs.YtnocnbklhikmnaaGreatDoor
