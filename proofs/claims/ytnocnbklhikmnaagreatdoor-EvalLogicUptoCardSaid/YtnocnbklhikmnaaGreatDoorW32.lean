/- Part 32 of the proof. -/
import Derived.Test.YtnocnbklhikmnaaGreatDoorW22
set_option linter.unusedVariables false
set_option maxRecDepth 1000000
set_option maxHeartbeats 16000000
namespace Go.Proofs.YtnocnbklhikmnaaGreatDoor
open Go Go.RowKit Go.BigFrame Go.Maps Go.WideMaps
def segOf(q:Option M.Fn):Bool:=match q with|some f=>decide (f.sort=1)|none=>false
theorem headx_at{w:World}{S:Nat->Prop}{A:Option Addr}{m:Nat}{ks:List M.Tree}(h:LAt ENodes w S A m (ks.map M.flat))(hm:0<m)(hS:∀b,S b->b<w.heap.size):∃a1 ad0 n0 c0,A=some a1/\w.cell? a1=some (.slice (some ad0) n0 c0)/\0<n0/\w.cell? ad0=some (.int .i64 (M.headX ks).op)/\w.cell? ⟨ad0.block,ad0.off+2,none⟩=some (.string (M.headX ks).text)/\a1.block<w.heap.size/\ad0.block<w.heap.size:=by
 obtain⟨a1,y,u,rfl,hb,hy,hr,hc⟩:=h.in1 rfl hm;rw[add_0] at hc;cases ks with
 |nil=>simp at hy
 |cons t l=>
  simp at hy;subst hy;obtain⟨At,ct,rfl,-,hl⟩:=Enc.list_inv (E:=ENode) hr;cases t with
  |mk x zs=>
   have hfl:M.flat (.mk x zs)=x::M.flats zs:=by unfold M.flat;rfl
   rw[hfl] at hl hc;obtain⟨ad,rfl,hb2,-,e0,he⟩:=node_open hl;exact⟨a1,ad,_,ct,rfl,hc,by simp,e0,he 1 _ rfl,hS _ hb,hS _ hb2⟩
theorem ccall_any(d:Nat)(ih:ExprOk d):CallOk d:=by
 intro x ks seg at_ g mb D f env dests tables S A c w hT hwf hop hck henv hok hl;have hm:=hok.le;obtain⟨htop1,htop2,htop3⟩:=okT_top hT
 have hHM:M.kindE (tnames tables) env (d+1) seg (.mk x ks)=match M.kindsL (M.kindE (tnames tables) env d (segOf (M.look x.text M.fns))) ks with
  | .error e=> .error e
  | .ok kinds=>M.callE (tnames tables) (M.look x.text M.fns) kinds (M.headX ks):=by
  conv=>lhs;unfold M.kindE
  rw[if_pos hop];rfl
 have HM:=q_ hHM;have hfl:M.flat (.mk x ks)=x::M.flats ks:=by unfold M.flat;rfl
 have hl0:=hl;rw[hfl] at hl0;obtain⟨ad,rfl,hbS,hx64,e0,he⟩:=node_open hl0;have hts:x.text.size<=1048576:=hx64.2.2.1;have hpos:=M.flat_pos (.mk x ks);have e1:=he 0 _ rfl;have e2:=he 1 _ rfl;have e3:=he 2 _ rfl;have e4:=he 3 _ rfl;have e5:=he 4 _ rfl;have e6:=he 5 _ rfl;have e7:=he 6 _ rfl;have e8:=he 7 _ rfl;have e9:=he 8 _ rfl;have HK:=q_ hck;have HL:=q_ hl;have HENV:=q_ henv;have HWF:=q_ hwf;have HOK:=q_ hok;have HT:=q_ hT;have IH:=q_ ih
 have hnl:ks.length<=1048576:=by
  have h1:=M.flats_len ks;have h2:(M.flat (.mk x ks)).length=(M.flats ks).length+1:=by rw[hfl];rfl
  omega
 generalize hq:M.look x.text M.fns=q at*;have HQ:=q_ hq;generalize hfm:(M.flat (.mk x ks)).length=m at*;have HN3:=q_ htop3;have WANTED:=q_ (show∀k:Nat,M.wanted x k=3 by intro k;unfold M.wanted;rw[if_neg (by omega),if_neg (by omega)]);have HWFL:=q_ (show M.wfL ks by unfold M.wfT at hwf;exact hwf.2);clear hHM hl hl0 he hck henv hwf hok hT ih hfl hq htop1 htop2 htop3 hop;obtain⟨w1,hw1⟩:∃w1,w1=w.alloc (.cells #[.int .i64 x.op,.int .i64 x.n,.string x.text,.int .i64 x.num,.string x.path.seg,.int .i64 x.path.occ,.int .i64 x.path.fld,.int .i64 x.path.rep,.int .i64 x.path.comp,.int .i64 x.path.sub] 144):=⟨_,rfl⟩
 have K1:=q_ (show Blk w1 w.heap.size 144 #[.int .i64 x.op,.int .i64 x.n,.string x.text,.int .i64 x.num,.string x.path.seg,.int .i64 x.path.occ,.int .i64 x.path.fld,.int .i64 x.path.rep,.int .i64 x.path.comp,.int .i64 x.path.sub] from hw1▸Blk.new w _ _);have B1:=q_ (show Below w.heap.size w w1 from hw1▸(Below.refl _ w).alloc (n_) _);have s1:w.heap.size<w1.heap.size:=by rw[hw1];simp
 go_enter Tryz.func81,Tryz.ntmps81;go_wp2_with fail;rw[<-hw1];clear hw1 e0 e1 e2 e3 e4 e5 e6 e7 e8 e9;refine wp_region_gen 9 [0,3,4,5,7] (FnI w1 q) (by kernel_rfl) (by kernel_rfl) (FnI.start w1) ?_;refine wpGen_fact rfl ?_ ?_
 ·intro L vs wx hI hR hL K hK
  go_simp;exact(functions_any wx).mono fun e w' ⟨b,he,hge,hF,hb⟩=>⟨_,he,hK _ _ ((hI.on hb).put0 hF)⟩
 intro KK hKK;go_simp;refine hKK _ ?_;clear hKK KK
 iterate 2
  apply wpGen_pure rfl
  ·intro L vs wx hI hR hL K hK
   have c0:=fun i=>(K1.o.below hI.below K1.o.lt).cell i;go_simp;exact hK _ (hI.pure (by decide) (by decide) (by decide) (by decide) (by decide) (by decide))
  intro KK hKK;go_simp;refine hKK _ ?_;clear hKK KK
 refine wpGen_fact rfl ?_ ?_
 ·intro L vs wx hI hR hL K hK
  obtain⟨b,e,hF⟩:=hI.f0 (hR 0 (by kernel_rfl));obtain⟨v,hv,hfv⟩:=fns_look hF x.text hts;rw[HQ.o] at hv hfv;go_simp;exact hK _ _ (hI.put3 hfv)
 intro KK hKK;go_simp;refine hKK _ ?_;clear hKK KK;refine wpGen_fact rfl ?_ ?_
 ·intro L vs wx hI hR hL K hK
  obtain⟨v,e,hfv⟩:=hI.f3 (hR 3 (by kernel_rfl));go_simp;exact hK _ _ (hI.put4 hfv)
 intro KK hKK;go_simp;refine hKK _ ?_;clear hKK KK;refine wpGen_fact rfl ?_ ?_
 ·intro L vs wx hI hR hL K hK
  obtain⟨v,e,hfv⟩:=hI.f4 (hR 4 (by kernel_rfl));go_simp;exact hK _ _ (hI.put5 hL hfv)
 intro KK hKK;go_simp;refine hKK _ ?_;clear hKK KK;apply wpGen_pure rfl
 ·intro L vs wx hI hR hL K hK
  obtain⟨v,e,hfv⟩:=hI.f4 (hR 4 (by kernel_rfl));go_simp;exact hK _ (hI.pure (by decide) (by decide) (by decide) (by decide) (by decide) (by decide))
 intro KK hKK;go_simp;refine hKK _ ?_;clear hKK KK;refine wpGen_fact rfl ?_ ?_
 ·intro L vs wx hI hR hL K hK
  go_simp;exact hK _ _ (hI.put7 hL)
 intro KK hKK;go_simp;refine hKK _ ?_;clear hKK KK;apply wpGen_pure rfl
 ·intro L vs wx hI hR hL K hK
  have h7:=hR 7 (by kernel_rfl);have h5:=hR 5 (by kernel_rfl);obtain⟨g8,hg8,hge8,hz8,-⟩:=hI.f7 h7;obtain⟨A8,n8,t8,s8,b8,hv5⟩:=(hI.f5 h5).agg;have hk0:=hz8 hL;have c0:∀i,wx.cell? ⟨g8,i,none⟩=(#[.slice none 0 0,.int .i64 0,.int .i64 0,.bool false]:Array Value)[i]? :=fun i=>hk0.cell i;have f0:=fun i=>hk0.frozen i;go_simp;exact hK _ (hI.put8 h7 h5 hg8 hv5 hge8 ⟨_,hk0⟩ (put4 hk0).1 (put4 hk0).2 _)
 intro KK hKK;go_simp;refine hKK _ ?_;clear hKK KK;refine wpGen_nil ?_;intro vs w2 hI;obtain⟨g8,hg8,hge8,-,hcs⟩:=hI.f7 (by decide);obtain⟨cs8,hv5,hk8⟩:=hcs (by decide);have hfv:=hI.f5 (by decide);obtain⟨v4,hv4,-⟩:=hI.f4 (by decide);obtain⟨v3,hv3,-⟩:=hI.f3 (by decide);have B2:=q_ (B1.o.trans (hI.below.mono B1.o.size));have K2:=q_ (K1.o.below hI.below K1.o.lt);have K8:=q_ hk8;have FV:=q_ hfv;have HV5:=q_ hv5;intro KK hKK;rw[hg8];clear hI hg8 hcs hv5 hfv hk8 hv4 hv3;simp only[List.drop_succ_cons];generalize hqs:q.isSome=qs;have HQS:=q_ hqs;clear hqs;have HS2:=q_ (fun b (h:S b)=>Nat.lt_of_lt_of_le (HK.o.there b h) B2.o.size);have KP:=q_ (parts_any x ks HWF.o (some ad) m c S w2 HS2.o HOK.o (HL.o.below B2.o HK.o.there));go_wp2_with fail;refine KP.o.mono ?_;rintro e w3 ⟨A1,c1,A2,c2,rfl,hk1,hk2,hl1,hl2,hb3⟩;have B3:=q_ (B2.o.trans (hb3.mono B2.o.size));have K8b:=q_ (K8.o.below hb3 K8.o.lt);have FVb:=q_ (FV.o.stays hb3);have P1:=q_ hl1;have P2:=q_ hl2;have OK1:=q_ hk1;have OK2:=q_ hk2
 have SW:=q_ (show∀b,(S b\/New w2 w3 b)->b<w3.heap.size from fun b h=>h.elim (fun h=>Nat.lt_of_lt_of_le (HS2.o b h) hb3.size) (fun h=>h.2));have hs3:=hb3.size;clear hk1 hk2 hl1 hl2 hb3;obtain⟨F,hF⟩:∃F,F=M.kindE (tnames tables) env d (segOf q):=⟨_,rfl⟩
 have HF:=q_ hF;obtain⟨w4,hw4⟩:∃w4,w4=w3.alloc (.cells #[.slice A1 ks.length c1] 146):=⟨_,rfl⟩
 have s4:w4.heap.size=w3.heap.size+1:=by rw[hw4];simp
 have X10:=q_ (show Blk w4 w3.heap.size 146 #[.slice A1 ks.length c1] from hw4▸Blk.new w3 _ _);have S34:=q_ (show Below w3.heap.size w3 w4 from hw4▸Stays.alloc _ _);have B4:=q_ (B3.o.trans (S34.o.mono B3.o.size));have K84:=q_ (K8b.o.below S34.o K8b.o.lt);have FV4:=q_ (FVb.o.stays S34.o);obtain⟨it2,hit2,hz2,hs2,hb2⟩:=info_parts info_i64;have I1:=q_ hit2;have I2:=q_ hz2;have I3:=q_ hs2;have I4:=q_ hb2;clear hF hit2 hz2 hs2 hb2;go_wp2_with fail;rw[<-hw4];clear hw4;go_loopw [12,32] (fun v y wr=>∃(k:Nat) (kl:List Int),k<=ks.length/\y= .int .i64 k/\OwnE EIntU 3 wr (w3.heap.size+1) (fun _=>False) v kl/\kl.length=k/\(∀(j:Nat) (t:M.Tree),j<k->ks[j]? =some t->∃kk,kl[j]? =some kk/\F t= .ok kk)/\Below w4.heap.size w4 wr) (fun _ y _=>ks.length-(intOf y).toNat)
 case atStart=>exact⟨0,[],by omega,rfl,OwnE.nil (fun b hb=>hb.elim),rfl,(fun j t hj=>by omega),Below.refl _ _⟩
 case round=>
  obtain⟨k,kl,hk,rfl,hown,hkl,hall,hb⟩:=hrel;have OW:=q_ hown;have HALL:=q_ hall;have HB:=q_ hb;have HKL:=q_ hkl;have BR:=q_ (B4.o.trans (hb.mono B4.o.size));have hsr:=hb.size;clear hown hall hb hkl;by_cases hlt:k<ks.length
  ·have q1:decide ((k:Int)<(ks.length:Int))=true:=by simp;omega
   obtain⟨t,htk⟩:∃t,ks[k]? =some t:=⟨_,List.getElem?_eq_getElem hlt⟩
   have B3R:=q_ (S34.o.trans (HB.o.mono S34.o.size));obtain⟨a1,y1,u1,rfl,hbS1,hy1,hr1,hc1⟩:=(P1.o.below B3R.o SW.o).in1 rfl hlt;rw[List.getElem?_map,htk] at hy1;cases hy1;obtain⟨At,ct,rfl,hokt,hlt1⟩:=Enc.list_inv (E:=ENode) hr1;obtain⟨a2,y2,u2,rfl,hbS2,hy2,hr2,hc2⟩:=(P2.o.below B3R.o (fun b h=>h.2)).in1 rfl hlt;obtain⟨e2,-⟩:=hr2;simp at e2;subst e2;have hkid:=okT_kid HT.o htk;rw[show M.wanted x k=3 from WANTED.o k] at hkid;have KE:=q_ (fun(W:World) (h:Below wr.heap.size wr W) (z:Int)=>IH.o t (segOf q) z g mb D f env dests tables (fun b=>S b\/New w2 w3 b) At ct W hkid (M.wfL_get (show M.wfL ks from HWFL.o) htk) (((HK.o.below BR.o).wide (fun b h=> .inl h) (fun b h=>by have:=SW.o b h;omega)).below h) HENV.o hokt (hlt1.below h (fun b h=>by have:=SW.o b h;omega)));rw[<-HF.o] at KE;have HBS2:=q_ (show a2.block<wr.heap.size from by have:=hbS2.2;omega);have K8R:=q_ (K84.o.below HB.o K84.o.lt);clear hr1 hlt1;cases q with
   |none=>
    obtain rfl:qs=false:=HQS.o.symm;cases hFt:F t with
    |error er=>
     have HERR:=q_ (show∃z,M.kindE (tnames tables) env (d+1) seg (.mk x ks)= .error z by
      obtain⟨z,hz⟩:=kindsL_err F ks k t er htk hFt;rw[HF.o] at hz;exact⟨z,by rw[HM.o,hz]⟩)
     have HTK:=q_ htk;clear htk;go_wp2_with fail;refine wp_region_genP (KP:=fun ch w5=>FaultP ch/\Below w.heap.size w w5) 17 [] (ErrI wr 15) (by kernel_rfl) (by kernel_rfl) (ErrI.start wr 15) (fun ch a2 w5 hd hk=>⟨hd,ExprP.err HERR.o hk.2 ⟨ch,rfl,hk.1⟩⟩) ?_
     iterate 15
      apply wpGenP_pure rfl
      ·intro L vs wx hI hR hL K hK
       have c0:=(hI.below.cell (p:=a2.add k) (by rw[block_of_add];exact HBS2.o)).trans hc2;go_simp;exact hK _ (hI.pure (by decide))
      intro KK hKK;go_simp;refine hKK _ ?_;clear hKK KK
     refine wpGenP_pure (v:= .int .i64 0) rfl ?_ ?_
     ·intro L vs wx hI hR hL K hK
      go_simp;exact((KE.o wx hI.below _).mono fun e w' ⟨hb,he⟩=> .inr (by rw[hFt] at he;obtain⟨ch,rfl,hf⟩:=he;exact⟨ch,rfl,hf,BR.o.trans ((hI.below.trans (hb.mono hI.below.size)).mono BR.o.size)⟩))
     intro KK hKK;go_simp;refine hKK _ ?_;clear hKK KK;refine wpGenP_pure (v:= .int .i64 0) rfl (fun L vs wx hI hR=>absurd (hR 15 (by kernel_rfl)) (by rw[hI.no];simp)) ?_;intro KK hKK;refine hKK _ ?_;clear hKK KK;refine wpGenP_nil ?_;intro vs w5 hI;exact absurd hI.no (by decide)
    |ok kk=>
     have HTK:=q_ htk;have HFT:=q_ hFt;clear htk;go_wp2_with fail;refine wp_region_genP (KP:=fun _ _=>False) 17 [16] (OneI wr 16 3 #[.int .i64 kk]) (by kernel_rfl) (by kernel_rfl) (OneI.start wr) (fun ch a2 w5 hd hk=>hk.elim) ?_
     iterate 15
      apply wpGenP_pure rfl
      ·intro L vs wx hI hR hL K hK
       have c0:=(hI.below.cell (p:=a2.add k) (by rw[block_of_add];exact HBS2.o)).trans hc2;go_simp;exact hK _ (hI.pure (by decide))
      intro KK hKK;go_simp;refine hKK _ ?_;clear hKK KK
     refine wpGenP_pure (v:= .int .i64 kk) rfl ?_ ?_
     ·intro L vs wx hI hR hL K hK
      go_simp;exact(KE.o wx hI.below _).mono fun e w' ⟨hb,he⟩=>⟨_,(show e= .returned (.int .i64 kk) by rw[hFt] at he;exact he),hK _ (hI.move hb (by decide))⟩
     intro KK hKK;go_simp;refine hKK _ ?_;clear hKK KK;refine wpGenP_fact rfl ?_ ?_
     ·intro L vs wx hI hR hL K hK
      go_simp;exact hK _ _ hI.make
     intro KK hKK;go_simp;refine hKK _ ?_;clear hKK KK;refine wpGenP_nil ?_;intro vs w5 hI;obtain⟨g5,hg5,hge5,hk5⟩:=hI.blk (by decide);have S5:=q_ hI.below;have K5:=q_ hk5;have hs5:=hI.below.size;intro KK hKK;have hKN:=fun a w h=>hKK .normal a w h;clear hKK;rw[hg5];clear hI hg5 hk5;simp only[List.drop_succ_cons];have O5:=q_ (OW.o.below S5.o);have hkl2:kl.length<=1048576:=by have:=HKL.o;omega
     refine wpList_append_E rfl (.tmp 37) (.tmp 53) _ rfl it2 (.int .i64 0) 8 Tryz.underlying147 I1.o I2.o I3.o I4.o rfl rfl O5.o ⟨g5,0,none⟩ 1 1 [kk] rfl rfl (news_blk K5.o ⟨rfl,trivial⟩) (by omega) (by omega) (by omega) ?_;intro o6 w6 hown6 hb6 hg6 _;have O6:=q_ hown6;have S6:=q_ (show Below w4.heap.size w4 w6 from(HB.o.trans (S5.o.mono HB.o.size)).trans (hb6.mono (by omega)))
     have HA6:=q_ (show∀(j:Nat) (t:M.Tree),j<k+1->ks[j]? =some t->∃z,(kl++[kk])[j]? =some z/\F t= .ok z from fun j t' hj ht'=>by
      rcases Nat.lt_or_ge j k with h1|h1
      ·obtain⟨z,hz1,hz2⟩:=HALL.o j t' h1 ht'
       exact⟨z,by rw[List.getElem?_append_left (by have:=HKL.o;omega)];exact hz1,hz2⟩
      ·obtain rfl:j=k:=by omega
       rw[HTK.o] at ht';cases ht';exact⟨kk,by rw[List.getElem?_append_right (by have:=HKL.o;omega),HKL.o];simp,HFT.o⟩)
     clear hown6 hb6 hg6;go_wp2;go_roundw
     case rel=>exact⟨k+1,kl++[kk],by omega,by go_num,O6.o,by rw[List.length_append,HKL.o];rfl,HA6.o,S6.o⟩
     case measure=>simp[intOf];omega
   |some fn=>
    obtain rfl:qs=true:=HQS.o.symm;obtain⟨mbF,Aa,eF,hA⟩:=FV4.o;rw[HV5.o] at eF;injection eF with eF;subst eF;have hsg:(fn.sort==1)=segOf (some fn):=by simp[segOf,Bool.beq_eq_decide_eq]
    have K8R:=q_ (show Blk wr g8 192 #[.slice Aa (fnQ fn).1.size (fnQ fn).1.size,.int .i64 fn.tells,.int .i64 fn.sort,.bool fn.table] from K8R.o);cases hFt:F t with
    |error er=>
     have HERR:=q_ (show∃z,M.kindE (tnames tables) env (d+1) seg (.mk x ks)= .error z by
      obtain⟨z,hz⟩:=kindsL_err F ks k t er htk hFt;rw[HF.o] at hz;exact⟨z,by rw[HM.o,hz]⟩)
     have HTK:=q_ htk;clear htk;go_wp2_with fail;refine wp_region_genP (KP:=fun ch w5=>FaultP ch/\Below w.heap.size w w5) 17 [] (ErrI wr 15) (by kernel_rfl) (by kernel_rfl) (ErrI.start wr 15) (fun ch a2 w5 hd hk=>⟨hd,ExprP.err HERR.o hk.2 ⟨ch,rfl,hk.1⟩⟩) ?_
     iterate 15
      apply wpGenP_pure rfl
      ·intro L vs wx hI hR hL K hK
       first
       |have c0:=(hI.below.cell (p:=a2.add k) (by rw[block_of_add];exact HBS2.o)).trans hc2
        go_simp;exact hK _ (hI.pure (by decide))
       |have c0:=fun i=>(K8R.o.below hI.below K8R.o.lt).cell i
        go_simp;exact hK _ (hI.pure (by decide))
      intro KK hKK;go_simp;refine hKK _ ?_;clear hKK KK
     refine wpGenP_pure (v:= .int .i64 0) rfl ?_ ?_
     ·intro L vs wx hI hR hL K hK
      go_simp;exact((KE.o wx hI.below _).mono fun e w' ⟨hb,he⟩=> .inr (by rw[hFt] at he;obtain⟨ch,rfl,hf⟩:=he;exact⟨ch,rfl,hf,BR.o.trans ((hI.below.trans (hb.mono hI.below.size)).mono BR.o.size)⟩))
     intro KK hKK;go_simp;refine hKK _ ?_;clear hKK KK;refine wpGenP_pure (v:= .int .i64 0) rfl (fun L vs wx hI hR=>absurd (hR 15 (by kernel_rfl)) (by rw[hI.no];simp)) ?_;intro KK hKK;refine hKK _ ?_;clear hKK KK;refine wpGenP_nil ?_;intro vs w5 hI;exact absurd hI.no (by decide)
    |ok kk=>
     have HTK:=q_ htk;have HFT:=q_ hFt;clear htk;go_wp2_with fail;refine wp_region_genP (KP:=fun _ _=>False) 17 [16] (OneI wr 16 3 #[.int .i64 kk]) (by kernel_rfl) (by kernel_rfl) (OneI.start wr) (fun ch a2 w5 hd hk=>hk.elim) ?_
     iterate 15
      apply wpGenP_pure rfl
      ·intro L vs wx hI hR hL K hK
       first
       |have c0:=(hI.below.cell (p:=a2.add k) (by rw[block_of_add];exact HBS2.o)).trans hc2
        go_simp;exact hK _ (hI.pure (by decide))
       |have c0:=fun i=>(K8R.o.below hI.below K8R.o.lt).cell i
        go_simp;exact hK _ (hI.pure (by decide))
      intro KK hKK;go_simp;refine hKK _ ?_;clear hKK KK
     refine wpGenP_pure (v:= .int .i64 kk) rfl ?_ ?_
     ·intro L vs wx hI hR hL K hK
      go_simp;exact(KE.o wx hI.below _).mono fun e w' ⟨hb,he⟩=>⟨_,(show e= .returned (.int .i64 kk) by rw[hFt] at he;exact he),hK _ (hI.move hb (by decide))⟩
     intro KK hKK;go_simp;refine hKK _ ?_;clear hKK KK;refine wpGenP_fact rfl ?_ ?_
     ·intro L vs wx hI hR hL K hK
      go_simp;exact hK _ _ hI.make
     intro KK hKK;go_simp;refine hKK _ ?_;clear hKK KK;refine wpGenP_nil ?_;intro vs w5 hI;obtain⟨g5,hg5,hge5,hk5⟩:=hI.blk (by decide);have S5:=q_ hI.below;have K5:=q_ hk5;have hs5:=hI.below.size;intro KK hKK;have hKN:=fun a w h=>hKK .normal a w h;clear hKK;rw[hg5];clear hI hg5 hk5;simp only[List.drop_succ_cons];have O5:=q_ (OW.o.below S5.o);have hkl2:kl.length<=1048576:=by have:=HKL.o;omega
     refine wpList_append_E rfl (.tmp 37) (.tmp 53) _ rfl it2 (.int .i64 0) 8 Tryz.underlying147 I1.o I2.o I3.o I4.o rfl rfl O5.o ⟨g5,0,none⟩ 1 1 [kk] rfl rfl (news_blk K5.o ⟨rfl,trivial⟩) (by omega) (by omega) (by omega) ?_;intro o6 w6 hown6 hb6 hg6 _;have O6:=q_ hown6;have S6:=q_ (show Below w4.heap.size w4 w6 from(HB.o.trans (S5.o.mono HB.o.size)).trans (hb6.mono (by omega)))
     have HA6:=q_ (show∀(j:Nat) (t:M.Tree),j<k+1->ks[j]? =some t->∃z,(kl++[kk])[j]? =some z/\F t= .ok z from fun j t' hj ht'=>by
      rcases Nat.lt_or_ge j k with h1|h1
      ·obtain⟨z,hz1,hz2⟩:=HALL.o j t' h1 ht'
       exact⟨z,by rw[List.getElem?_append_left (by have:=HKL.o;omega)];exact hz1,hz2⟩
      ·obtain rfl:j=k:=by omega
       rw[HTK.o] at ht';cases ht';exact⟨kk,by rw[List.getElem?_append_right (by have:=HKL.o;omega),HKL.o];simp,HFT.o⟩)
     clear hown6 hb6 hg6;go_wp2;go_roundw
     case rel=>exact⟨k+1,kl++[kk],by omega,by go_num,O6.o,by rw[List.length_append,HKL.o];rfl,HA6.o,S6.o⟩
     case measure=>simp[intOf];omega
  ·have hkk:k=ks.length:=by omega
   have HALLK:=q_ (kindsL_ok F ks kl (by rw[HKL.o,hkk]) (fun j t hj=>HALL.o j t (by
    have:=(List.getElem?_eq_some_iff.mp hj).1;omega) hj))
   have HME:=q_ (show M.kindE (tnames tables) env (d+1) seg (.mk x ks)=M.callE (tnames tables) q kl (M.headX ks) by rw[HM.o,<-HF.o,HALLK.o]);have hkl2:kl.length<=1048576:=by have:=HKL.o;omega
   have q1:decide ((k:Int)<(ks.length:Int))=false:=by simp;omega
   have K8R:=q_ (K84.o.below HB.o K84.o.lt);have FVR:=q_ (FV4.o.stays HB.o);have KR:=q_ ((HK.o.below BR.o).wide (fun b h=>(.inl h:S b\/New w2 w3 b)) (fun b h=>by have:=SW.o b h;omega));have B3R:=q_ (S34.o.trans (HB.o.mono S34.o.size));have X10R:=q_ (X10.o.below HB.o X10.o.lt);cases q with
   |none=>
    obtain rfl:qs=false:=HQS.o.symm;go_wp2_with fail;refine(want_no 92 _ (by decide) _).mono ?_
    rintro e w5 ⟨⟨ch,rfl,hf⟩,rfl⟩;go_wp2;exact⟨rfl,ExprP.err (show∃z,M.kindE (tnames tables) env (d+1) seg (.mk x ks)= .error z from⟨92,by rw[HME.o];rfl⟩) BR.o ⟨ch,rfl,hf⟩⟩
   |some fn=>
    obtain rfl:qs=true:=HQS.o.symm;obtain⟨mbF,Aa,eF,hA⟩:=FVR.o;rw[HV5.o] at eF;injection eF with eF;subst eF;have HFF:=q_ (fns_facts HQ.o);have KE:=q_ (fun(v:Value) (h:OwnE EIntU 3 wr (w3.heap.size+1) (fun _=>False) v kl)=>intEq_any v (w3.heap.size+1) mbF kl fn Aa wr h hkl2 hA (by have:=HFF.o.1;omega));clear hA;have K8R:=q_ (show Blk wr g8 192 #[.slice Aa (fnQ fn).1.size (fnQ fn).1.size,.int .i64 fn.tells,.int .i64 fn.sort,.bool fn.table] from K8R.o);have hc8:=fun i=>K8R.o.cell i;go_wp2_with fail;refine(want_yes 92 _ _).mono ?_
    rintro e w5 ⟨rfl,rfl⟩;go_wp2_with fail;refine(KE.o _ OW.o).mono ?_
    rintro e w6 ⟨rfl,hb6⟩;have BR6:=q_ (BR.o.trans (hb6.mono BR.o.size));have K86:=q_ (K8R.o.below hb6 K8R.o.lt);have X106:=q_ (X10R.o.below hb6 X10R.o.lt);have KR6:=q_ (KR.o.below hb6);have P16:=q_ (P1.o.below (B3R.o.trans (hb6.mono B3R.o.size)) SW.o);have PS6:=q_ (show∀b,(S b\/New w2 w3 b)->b<w6.heap.size from fun b h=>by have:=SW.o b h;have:=hb6.size;omega);clear hb6 hc8;have hc8:=fun i=>K86.o.cell i;by_cases hE:kl=fn.args
    ·have NE:=q_ (show fn.sort=1\/fn.sort=2\/fn.table=true->0<ks.length from fun h=>by
      have h1:=HKL.o;rcases Nat.eq_zero_or_pos ks.length with h2|h2
      ·obtain⟨a,b,c⟩:=HFF.o.2 (by rw[<-hE];exact List.eq_nil_of_length_eq_zero (by omega))
       rcases h with h|h|h
       ·exact absurd h a
       ·exact absurd h b
       ·rw[c] at h;cases h
      ·exact h2)
     have HE:=q_ hE;have q3:decide (kl=fn.args)=true:=by simp[hE]
     clear hE;go_wp2_with fail;refine(want_yes 82 _ _).mono ?_
     rintro e w7 ⟨rfl,h7⟩;have h7:=h7.symm;subst h7;rcases(show(fn.sort=1/\(M.headX ks).op≠11)\/(fn.sort=2/\(M.headX ks).op≠7)\/(fn.sort=1/\(M.headX ks).op=11)\/(fn.sort=2/\(M.headX ks).op=7)\/(fn.sort≠1/\fn.sort≠2) by omega) with⟨hs,ho⟩|⟨hs,ho⟩|⟨hs,ho⟩|⟨hs,ho⟩|⟨hs,ho⟩
     iterate 4
      have HS:=q_ hs;have HO:=q_ ho
      first|have q4:(fn.sort==1)=true:=by simp[hs]|have q4:(fn.sort==1)=false:=by simp[hs]
      try have q5:(fn.sort==2)=true:=by simp[hs]
      first|have q2:((M.headX ks).op==11)=true:=by simp[ho]|have q2:((M.headX ks).op==7)=true:=by simp[ho]|have q2:((M.headX ks).op==11)=false:=by simp[ho]|have q2:((M.headX ks).op==7)=false:=by simp[ho]
      have hks:=NE.o (by first|exact .inl HS.o|exact .inr (.inl HS.o));obtain⟨a1,ad0,n0,c0,hA1,cA,hn0,cB,cC,ha1,had0⟩:=headx_at P16.o hks PS6.o;have HA1:=q_ hA1;have X10b:=q_ (show Blk w6 w3.heap.size 146 #[.slice (some a1) ks.length c1] from HA1.o▸X106.o);have cX:=fun i=>X10b.o.cell i;have hnx:0<ks.length:=hks;clear hA1 cC hs ho
      focus go_wp2_with fail
      rotate_left
     have HS:=q_ hs;have HO:=q_ ho;have q4:(fn.sort==1)=false:=by simp[hs]
     have q5:(fn.sort==2)=false:=by simp[ho]
     clear hs ho;rotate_left
     iterate 2
      refine(want_no 82 _ (by decide) _).mono ?_
      rintro e w7 ⟨⟨ch,rfl,hf⟩,rfl⟩
      focus go_wp2
      exact⟨rfl,ExprP.err (show∃z,M.kindE (tnames tables) env (d+1) seg (.mk x ks)= .error z from⟨82,by rw[HME.o];unfold M.callE;simp only[];rw[HE.o];simp[HS.o,HO.o]⟩) BR6.o ⟨ch,rfl,hf⟩⟩
     iterate 2
      refine(want_yes 82 _ _).mono ?_
      rintro e w7 ⟨rfl,h7⟩;have h7:=h7.symm;subst h7;clear cX cA cB q2;rotate_left
     all_goals
      have CE:=q_ (show M.callE (tnames tables) (some fn) kl (M.headX ks)=if fn.table=true/\M.hasT (tnames tables) (M.headX ks).text=false then .error 92 else .ok fn.tells by
       unfold M.callE;simp only[];rw[HE.o,if_neg (by simp),if_neg (by have:=HS.o;have:=HO.o;omega),if_neg (by have:=HS.o;have:=HO.o;omega)])
      cases hft:fn.table with
      |false=>
       have HFT2:=q_ hft;have c8:∀i,w6.cell? ⟨g8,i,none⟩=(#[.slice Aa (fnQ fn).1.size (fnQ fn).1.size,.int .i64 fn.tells,.int .i64 fn.sort,.bool false]:Array Value)[i]? :=fun i=>by rw[<-HFT2.o];exact K86.o.cell i
       clear hft hc8;go_wp2_with fail;refine(want_yes 92 _ _).mono ?_
       rintro e w7 ⟨rfl,h7⟩;have h7:=h7.symm;subst h7;go_wp2;go_ret;exact ExprP.ok (k:=fn.tells) (by rw[HME.o,CE.o,if_neg (by rw[HFT2.o];simp)]) BR6.o rfl
      |true=>
       have HFT2:=q_ hft;have c8:∀i,w6.cell? ⟨g8,i,none⟩=(#[.slice Aa (fnQ fn).1.size (fnQ fn).1.size,.int .i64 fn.tells,.int .i64 fn.sort,.bool true]:Array Value)[i]? :=fun i=>by rw[<-HFT2.o];exact K86.o.cell i
       have hks:=NE.o (.inr (.inr hft));clear hft hc8;obtain⟨a1,ad0,n0,c0,rfl,cA,hn0,cB,cC,ha1,had0⟩:=headx_at P16.o hks PS6.o;obtain⟨dA,dc,tA,tc,hg,hd1,hd2,hd3,hd4⟩:=KR6.o.blk;have cg:=fun i=>hg.cell i;have HTB:=q_ (tabs_any tables _ tA tc w3.heap.size a1 ad0 ks.length c1 n0 c0 (M.headX ks).text w6 hd2 hd4 KR6.o.there X106.o hks cA hn0 cC ha1 had0);clear hd3 hd4 hg cA cB cC;go_wp2_with fail;refine HTB.o.mono ?_;rintro e w8 ⟨rfl,hb8⟩;have BR8:=q_ (BR6.o.trans (hb8.mono BR6.o.size));have K88:=q_ (K86.o.below hb8 K86.o.lt);clear hb8 c8;have c8:=fun i=>K88.o.cell i;cases hht:M.hasT (tnames tables) (M.headX ks).text with
       |false=>
        have HHT:=q_ hht;clear hht;go_wp2_with fail;refine(want_no 92 _ (by decide) _).mono ?_
        rintro e w7 ⟨⟨ch,rfl,hf⟩,rfl⟩;go_wp2;exact⟨rfl,ExprP.err (show∃z,M.kindE (tnames tables) env (d+1) seg (.mk x ks)= .error z from⟨92,by rw[HME.o,CE.o,if_pos ⟨HFT2.o,HHT.o⟩]⟩) BR8.o ⟨ch,rfl,hf⟩⟩
       |true=>
        have HHT:=q_ hht;clear hht;go_wp2_with fail;refine(want_yes 92 _ _).mono ?_
        rintro e w7 ⟨rfl,h7⟩;have h7:=h7.symm;subst h7;go_wp2;go_ret;exact ExprP.ok (k:=fn.tells) (by rw[HME.o,CE.o,if_neg (by rw[HHT.o];simp)]) BR8.o rfl
    ·have HE:=q_ hE
     have q3:decide (kl=fn.args)=false:=by simp[hE]
     clear hE;go_wp2_with fail;refine(want_no 82 _ (by decide) _).mono ?_
     rintro e w7 ⟨⟨ch,rfl,hf⟩,rfl⟩;go_wp2;exact⟨rfl,ExprP.err (show∃z,M.kindE (tnames tables) env (d+1) seg (.mk x ks)= .error z from⟨82,by rw[HME.o];unfold M.callE;simp only[];simp[HE.o]⟩) BR6.o ⟨ch,rfl,hf⟩⟩
end Go.Proofs.YtnocnbklhikmnaaGreatDoor
