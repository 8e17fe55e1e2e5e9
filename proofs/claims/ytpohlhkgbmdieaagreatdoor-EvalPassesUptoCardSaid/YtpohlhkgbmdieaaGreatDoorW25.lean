/- Part 25 of the proof. -/
import Derived.Test.YtpohlhkgbmdieaaGreatDoorW24
import Derived.Defers
import Derived.Recover
set_option linter.unusedVariables false
set_option maxRecDepth 1000000
set_option maxHeartbeats 16000000
namespace Go.Proofs.YtpohlhkgbmdieaaGreatDoor
variable{D:Nat}{G:List (ByteArray×Int)->M.Tree->Except Int (List (ByteArray×Int))}{P:Program}{S:Nat->Prop}{b d:Nat}{dests:List ByteArray}{κ:Type}{enc:κ->Value}{env vS:List (ByteArray×Int)}{f:cy->Option Int}{k:Nat}{ks:List M.Tree}{mb n:Nat}{op:Int}{r:Nat}{t:M.Tree}{tables:List ByteArray}{tl:List M.Tree}{w w':World}{x:M.Node}
open Go Go.RowKit Go.BigFrame Go.Maps Go.WideMaps
theorem Bi{ops:Array Oper}{rest:List Oper}{o:Oper}{a:Act}{Q:Exit->Act->World->Prop}(hg:o.guard=none)(m x v:Operand)(hop:o.op=Op.mapUpdate 74 m x v)(h:Hl w mb f)(D:Nat)(hD:D<=1000)(name:ByteArray)(hn:name.size<=1048576)(k:Int)(hm:a.eval m= .map (some mb))(hx:a.eval x= .agg #[.int .i64 D,.string name])(hv:a.eval v= .int .i64 k)(hK:∀w',Hl w' mb (pZ f ((D:Int),name) k)->w.grownBy w' (some mb)->wpList Tryz.prog ops Q rest (a.put o.dst undef) w'):wpList Tryz.prog ops Q (o::rest) a w:=by
 refine wpList_plain hg fun K' hK'=> ?_;obtain⟨kl,nM⟩:=yI (D:Int) name ⟨by omega,by omega⟩ hn;obtain⟨w',hrun,r1,r2⟩:=h.store rh Tryz.underlying74 jW nM (.int .i64 k);replace hrun:(Instr.mapUpdate 74 (.map (some mb)) (.agg #[.int .i64 D,.string name]) (.int .i64 k)).run Tryz.prog w= .ok () w':=hrun
 have r3:Hl w' mb (pZ f ((D:Int),name) k):=r1.congr fun y=>by
  show(if y=((D:Int),name) then some (Value.int .i64 k) else(f y).map (Value.int .i64))=(pZ f ((D:Int),name) k y).map (Value.int .i64)
  unfold pZ;by_cases hy:y=((D:Int),name)
  ·rw[if_pos hy,if_pos hy];rfl
  ·rw[if_neg hy,if_neg hy]
 unfold Oper.wp;simp[execOp,hop,hm,hx,hv,hrun,Result.andThen];exact hK' _ _ (hK w' r3 r2)
theorem rE(h:M.b7 op=2):1<=op/\op<=6:=by
 unfold M.b7 at h;split at h
 ·simp at h
 ·split at h
  ·assumption
  ·split at h<;>simp at h
theorem gT(h:M.right x=true):M.cd x.op<=x.n:=by
 unfold M.right at h;simp only[Bool.and_eq_true,Bool.or_eq_true,decide_eq_true_eq] at h;exact h.1.1.2
theorem vR(h:x.op=1):M.wanted x (k+1)=1:=by unfold M.wanted;simp[h]
theorem Wo(a:Addr)(k:Nat):a.add (k+1)=⟨a.block,a.off+1+k,none⟩:=by
 unfold Addr.add;rw[if_neg (by omega),show a.off+(k+1)=a.off+1+k by omega]
theorem Bk(h:x.op=1):M.bh dests tables (d+1) env (.mk x (t::tl))=match M.bG tables env d false t with
 | .error e=> .error e
 | .ok k=>if k=3 then M.gH (M.bh dests tables d) env tl else .error 82:=by
 conv=>lhs;unfold M.bh
 rw[if_neg (by omega),if_pos h];rfl
theorem JI(h:x.op=2):M.bh dests tables (d+1) env (.mk x (t::tl))=match M.bG tables env d false t with
 | .error e=> .error e
 | .ok k=>if k=1 then .ok env else .error 82:=by
 conv=>lhs;unfold M.bh
 rw[if_neg (by omega),if_neg (by omega),if_pos h];rfl
theorem JJ(h:x.op=4):M.bh dests tables (d+1) env (.mk x (t::tl))=match M.bG tables env d false t with
 | .error e=> .error e
 | .ok k=>match M.look x.text env with
   |some had=>if had=k then .ok env else .error 82
   |none=> .ok (env++[(x.text,k)]):=by
 conv=>lhs;unfold M.bh
 rw[if_neg (by omega),if_neg (by omega),if_neg (by omega),if_pos h];rfl
theorem UL(h:x.op=5):M.bh dests tables (d+1) env (.mk x ks)=if M.fo dests x.text=true then .ok env else .error 92:=by
 conv=>lhs;unfold M.bh
 rw[if_neg (by omega),if_neg (by omega),if_neg (by omega),if_neg (by omega),if_pos h]
theorem UM(h:x.op=3\/x.op=6):M.bh dests tables (d+1) env (.mk x ks)= .ok env:=by
 conv=>lhs;unfold M.bh
 rw[if_neg (by omega),if_neg (by omega),if_neg (by omega),if_neg (by omega),if_neg (by omega)]
theorem yS{G:List (ByteArray×Int)->M.Tree->Except Int (List (ByteArray×Int))}{env:List (ByteArray×Int)}:∀l:List M.Tree,(∀t∈l,G env t= .ok env)->M.gH G env l= .ok env
 |[],_=>rfl
 |t::l,h=>by
  unfold M.gH;rw[h t List.mem_cons_self];exact yS l fun t' kH=>h t' (List.mem_cons_of_mem _ kH)
theorem yT{G:List (ByteArray×Int)->M.Tree->Except Int (List (ByteArray×Int))}{env:List (ByteArray×Int)}:∀(l:List M.Tree) (j:Nat) (t:M.Tree) (e:Int),(∀(i:Nat) (t:M.Tree),i<j->l[i]? =some t->G env t= .ok env)->l[j]? =some t->G env t= .error e->∃e',M.gH G env l= .error e'
 |[],j,t,e,_,h,_=>by simp at h
 |x::l,0,t,e,_,h,he=>by
  simp at h;subst h;exact⟨e,by unfold M.gH;rw[he]⟩
 |x::l,j+1,t,e,ha,h,he=>by
  obtain⟨e',h'⟩:=yT l j t e (fun i t' hi kH=>ha (i+1) t' (by omega) (by simpa using kH)) (by simpa using h) he;exact⟨e',by unfold M.gH;rw[ha 0 x (by omega) rfl];exact h'⟩
theorem Ej{cS:List (ByteArray×Int)}(h:M.jP d 1 t=true)(hl:M.bh dests tables d env t= .ok cS):cS=env:=by
 cases d with
 |zero=>simp[M.jP] at h
 |succ d=>
  cases t with
  |mk x ks=>
   have h0:x.op=0:=by
    have hc:=(cU h).1;unfold M.b7 at hc;split at hc
    ·assumption
    ·split at hc
     ·simp at hc
     ·split at hc<;>simp at hc
   unfold M.bh at hl;rw[if_pos h0] at hl;split at hl
   ·cases hl
   ·cases hl;rfl
theorem Yo(d:Nat)(hbl:Yn d):Ym (d+1):=by
 intro t at_ g mb D f env dests tables S N A c w hT bf jH my xI SR Be Z3 hDd aI hl;cases t with
 |mk x ks=>
 have hm:=aI.le;obtain⟨dM,fj,fk⟩:=cU hT;have rD:=rE dM;have ep:=gT fj;have kf:M.flat (.mk x ks)=x::M.bB ks:=by unfold M.flat;rfl
 have HK:=q_ jH;have jY:=q_ my;have Ms:=q_ xI;have Bf:=q_ bf;have nk:=q_ aI;have HL:=q_ hl;have HT:=q_ hT;have BL:=q_ hbl;have HSW:=q_ jH.there;have Ou:=q_ Be;have Z6:=q_ Z3;have Mt:=q_ SR;have ua:=jH.blk;have HG:=q_ (show g<w.heap.size from by obtain⟨_,_,_,_,h,_⟩:=ua;exact h.lt);have HMB:=q_ (show mb<w.heap.size from jH.map.lt);have hl0:=hl;rw[kf] at hl0;obtain⟨ad,rfl,yx,kE,e0,he⟩:=dy hl0;have yF:x.text.size<=1048576:=kE.2.2.1;have sT:=M.eC (.mk x ks);have e1:=he 0 _ rfl;have e2:=he 1 _ rfl;have e3:=he 2 _ rfl;have e4:=he 3 _ rfl;have e5:=he 4 _ rfl;have e6:=he 5 _ rfl;have e7:=he 6 _ rfl;have e8:=he 7 _ rfl;have e9:=he 8 _ rfl
 have UD:ks.length<=1048576:=by
  have h1:=M.dx ks;have h2:(M.flat (.mk x ks)).length=(M.bB ks).length+1:=by rw[kf];rfl
  omega
 have oQ:=q_ (show M.cd x.op<=(ks.length:Int) by rw[<-fk];exact ep);have QI:=q_ rD;have HDD:=q_ hDd;have WANTED:=q_ (show M.wanted x 0=3 by unfold M.wanted;rw[if_neg (by omega),if_neg (by omega)]);have iX:=q_ (show M.pz ks by unfold M.mh at bf;exact bf.2);generalize Jo:(M.flat (.mk x ks)).length=m at*;clear hl0 hl he jH my bf aI hT hbl kf dM fj fk rD ep ua Be Z3 SR xI hDd;obtain⟨w1,bu⟩:∃w1,w1=w.alloc (.cells #[.int .i64 x.op,.int .i64 x.n,.string x.text,.int .i64 x.num,.string x.path.aN,.int .i64 x.path.aP,.int .i64 x.path.aR,.int .i64 x.path.rep,.int .i64 x.path.comp,.int .i64 x.path.sub] 129):=⟨_,rfl⟩
 have K1:=q_ (show ar w1 w.heap.size 129 #[.int .i64 x.op,.int .i64 x.n,.string x.text,.int .i64 x.num,.string x.path.aN,.int .i64 x.path.aP,.int .i64 x.path.aR,.int .i64 x.path.rep,.int .i64 x.path.comp,.int .i64 x.path.sub] from bu▸ar.new w _ _);have B1:=q_ (show Below w.heap.size w w1 from bu▸(Below.refl _ w).alloc (n_) _);have s1:w1.heap.size=w.heap.size+1:=by rw[bu];simp
 have qL:=q_ (fun b (h:N b)=>l_ (Z6.o b h).1 B1.o.size);have KP:=q_ (fh x ks Bf.o (some ad) m c N w1 qL.o nk.o (HL.o.below B1.o (fun b h=>(Z6.o b h).1)));have tC:=bu.symm;clear bu;go_enter Tryz.func92,Tryz.ntmps92;go_wp2_with fail;refine KP.o.mono ?_;rintro e w3 ⟨A1,c1,A2,c2,rfl,kY,hk2,dF,hl2,hb3⟩;have B3:=q_ (B1.o.trans (hb3.mono B1.o.size));have Nz:=q_ (K1.o.below hb3 K1.o.lt);have P1:=q_ dF;have P2:=q_ hl2;have fS:=q_ kY;have ZZ:=q_ hk2;have SW:=q_ (show∀b,(N b\/New w1 w3 b)->b<w3.heap.size/\b≠g/\b≠mb from fun b h=>h.elim (fun h=>⟨l_ (qL.o b h) hb3.size,(Z6.o b h).2⟩) (fun h=>⟨h.2,by have:=HG.o;have:=h.1;omega,by have:=HMB.o;have:=h.1;omega⟩));have hs3:=hb3.size;clear kY hk2 dF hl2 hb3 tC e0 e1 e2 e3 e4 e5 e6 e7 e8 e9;have Ek:=q_ (HK.o.below B3.o);have z6:=fun i=>Nz.o.cell i;have Mv:=q_ (Aside.of (g:=g) (mb:=mb) B3.o)
 have mz:(x.op=1\/x.op=2)\/x.op=4\/x.op=5\/(x.op=3\/x.op=6):=by
  have:=QI.o;omega
 rcases mz with hop|hop|hop|hop
 rotate_left
 ·skip
  obtain⟨t0,tl,rfl⟩:∃t0 tl,ks=t0::tl:=by
   cases ks with
   |nil=>have:=oQ.o;rw[hop] at this;simp[M.cd] at this
   |cons a b=>exact⟨a,b,rfl⟩
  have LAW:=q_ (JJ (dests:=dests) (tables:=aG tables) (d:=d) (env:=env) (t:=t0) (tl:=tl) hop);obtain⟨a1,y1,u1,rfl,ib,fI,hr1,hc1⟩:=P1.o.in1 (k:=0) rfl (by simp);rw[iU] at hc1;simp at fI;subst fI;obtain⟨At,ct,rfl,fE,di⟩:=aU.av (E:=ENode) hr1;obtain⟨a2,y2,u2,rfl,nQ,eI,hr2,hc2⟩:=P2.o.in1 (k:=0) rfl (by simp);rw[iU] at hc2;obtain⟨e2,-⟩:=hr2;simp at e2;subst e2;have gS:=cF (i:=0) (t:=t0) HT.o rfl;rw[WANTED.o] at gS;have KE:=q_ (fun(W:World) (h:Below w3.heap.size w3 W) (z:Int)=>mB d t0 false z g mb D f env dests tables (fun b=>S b\/(N b\/New w1 w3 b)) At ct W gS (M.cw (k:=0) (show M.pz (t0::tl) from iX.o) rfl) ((Ek.o.wide (fun b h=>(.inl h:S b\/(N b\/New w1 w3 b))) (fun b h=>h.elim (fun h=>Ek.o.there b h) (fun h=>(SW.o b h).1))).below h) jY.o fE ((di.below h (fun b h=>(SW.o b h).1)).wide (fun b h=> .inr h)));have Wp:=q_ (show a1.block<w3.heap.size from(SW.o _ ib).1);have j9:=q_ (show a2.block<w3.heap.size from by have:=nQ.2;omega);clear hr1 di eI;cases pY:M.bG (aG tables) env d false t0 with
  |error er=>
   have gR:=q_ (show∃z,M.bh dests (aG tables) (d+1) env (.mk x (t0::tl))= .error z from⟨er,by rw[LAW.o,pY]⟩);go_wp2_with fail;refine ak (KP:=fun ch w5=>eR ch/\Aside g mb w w5) 10 [] (cN w3 9) (by kernel_rfl) (by kernel_rfl) (cN.start w3 9) (fun ch a2 w5 hd hk=>⟨hd,vQ.err gR.o hk.2 ⟨ch,rfl,hk.1⟩⟩) ?_
   iterate 9
    apply ae rfl
    ·intro L vs wx hI hR hL K hK
     first
     |have c0:=(hI.below.cell (p:=a1) Wp.o).trans hc1
      go_simp;exact hK _ (hI.pure (by decide))
     |have c0:=(hI.below.cell (p:=a2) j9.o).trans hc2
      go_simp;exact hK _ (hI.pure (by decide))
    intro KK af;go_simp;refine af _ ?_;clear af KK
   refine ae (v:= .int .i64 0) rfl ?_ ?_
   ·intro L vs wx hI hR hL K hK
    go_simp;exact((KE.o wx hI.below _).mono fun e w' ⟨hb,he⟩=> .inr (by rw[pY] at he;obtain⟨ch,rfl,hf⟩:=he;exact⟨ch,rfl,hf,Mv.o.on (hI.below.trans (hb.mono hI.below.size))⟩))
   intro KK af;go_simp;refine af _ ?_;clear af KK;refine aw ?_;intro vs w5 hI;exact absurd hI.no (by decide)
  |ok kk=>
   have pX:=q_ pY;clear pY;go_wp2_with fail;refine ak (KP:=fun _ _=>False) 10 [] (cN w3 100) (by kernel_rfl) (by kernel_rfl) (cN.start w3 100) (fun ch a2 w5 hd hk=>hk.elim) ?_
   iterate 9
    apply ae rfl
    ·intro L vs wx hI hR hL K hK
     first
     |have c0:=(hI.below.cell (p:=a1) Wp.o).trans hc1
      go_simp;exact hK _ (hI.pure (by decide))
     |have c0:=(hI.below.cell (p:=a2) j9.o).trans hc2
      go_simp;exact hK _ (hI.pure (by decide))
    intro KK af;go_simp;refine af _ ?_;clear af KK
   refine ae (v:= .int .i64 kk) rfl ?_ ?_
   ·intro L vs wx hI hR hL K hK
    go_simp;exact(KE.o wx hI.below _).mono fun e w' ⟨hb,he⟩=>⟨_,(show e= .returned (.int .i64 kk) by rw[pX.o] at he;exact he),hK _ (hI.on hb (by decide))⟩
   intro KK af;go_simp;refine af _ ?_;clear af KK;refine aw ?_;intro vs w5 hI;have B5:=q_ hI.below;have Mw:=q_ (Mv.o.on hI.below);have ND:=q_ (Ek.o.below hI.below);have Yp:=q_ (Nz.o.below hI.below Nz.o.lt);clear hI z6;have z6:=fun i=>Yp.o.cell i;intro KK af;have kg:=fun a w h=>af .normal a w h;simp only[List.drop_succ_cons];obtain⟨dA,dc,tA,tc,hg,jf,nU,JF,FH⟩:=ND.o.blk;have FD:=q_ (DN g mb D f _ _ x.text w5 ND.o.deep hg ND.o.map yF);have LK:=q_ (jY.o x.text);clear JF FH hg;go_wp2_with fail;refine FD.o.mono ?_;rintro e w7 ⟨rfl,gW⟩;have SS:=q_ (Mw.o.on gW);have QO:=q_ (ND.o.below gW);have K67:=q_ (Yp.o.below gW Yp.o.lt);clear z6 gW;have z6:=fun i=>K67.o.cell i;unfold vA;cases hfn:dZ f x.text (D+1) with
   |none=>
    have LN:=q_ (show M.look x.text env=none by rw[LK.o,hfn];rfl);have cu:=q_ (show M.bh dests (aG tables) (d+1) env (.mk x (t0::tl))= .ok (env++[(x.text,kk)]) by rw[LAW.o,pX.o];simp only[LN.o]);clear hfn;obtain⟨dA,dc,tA,tc,hg,jf,nU,JF,FH⟩:=QO.o.blk;have GB:=q_ hg;clear JF FH hg;go_wp2_with fail;refine(bL 82 _ _).mono ?_
    rintro e w8 ⟨rfl,h8⟩;have h8:=h8.symm;subst h8;clear z6;go_wp2_with fail;refine ak (KP:=fun _ _=>False) 12 [] (cN w7 100) (by kernel_rfl) (by kernel_rfl) (cN.start w7 100) (fun ch a2 w5 hd hk=>hk.elim) ?_
    iterate 12
     apply ae rfl
     ·intro L vs wx hI hR hL K hK
      first
      |have c0:=fun i=>(GB.o.below hI.below GB.o.lt).cell i
       go_simp;exact hK _ (hI.pure (by decide))
      |have c0:=fun i=>(K67.o.below hI.below K67.o.lt).cell i
       go_simp;exact hK _ (hI.pure (by decide))
     intro KK af;go_simp;refine af _ ?_;clear af KK
    refine aw ?_;intro vs w8 hI;have AS8:=q_ (SS.o.on hI.below);have Z7:=q_ (QO.o.below hI.below);clear hI;intro KK af;have kg:=fun a w h=>af .normal a w h;simp only[List.drop_succ_cons];refine Bi rfl (.tmp 106) (.tmp 113) (.tmp 114) rfl Z7.o.map D Z7.o.deep x.text yF kk (by rfl) (by rfl) (by rfl) ?_;intro w9 hm9 Uv;have AS9:=q_ (AS8.o.grown (.inr rfl) Uv);have CK9:=q_ (Z7.o.put Uv hm9 Mt.o Ou.o);clear hm9 Uv;go_wp2;go_end0;exact vQ.ok cu.o AS9.o rfl CK9.o (jY.o.put LN.o) Ms.o.put (cE.refl _ _).put
   |some p=>
    obtain⟨kv,dd⟩:=p;have LN:=q_ (show M.look x.text env=some kv by rw[LK.o,hfn];rfl);have hdd:=kI hfn;have q7:decide (dd<0)=false:=by simp;omega
    clear hfn;by_cases hq:kv=kk
    ·have cu:=q_ (show M.bh dests (aG tables) (d+1) env (.mk x (t0::tl))= .ok env by rw[LAW.o,pX.o];simp only[LN.o,if_pos hq])
     have q8:(kv==kk)=true:=by simp[hq]
     clear hq;go_wp2_with fail;refine(bL 82 _ _).mono ?_
     rintro e w8 ⟨rfl,h8⟩;have h8:=h8.symm;subst h8;go_wp2;go_end0;exact vQ.ok (cu.o) SS.o rfl QO.o jY.o Ms.o (cE.refl _ _)
    ·have cu:=q_ (show M.bh dests (aG tables) (d+1) env (.mk x (t0::tl))= .error 82 by rw[LAW.o,pX.o];simp only[LN.o,if_neg hq])
     have q8:(kv==kk)=false:=by simp[hq]
     clear hq;go_wp2_with fail;refine(cM 82 _ (by decide) _).mono ?_
     rintro e w8 ⟨⟨ch,rfl,hf⟩,h8⟩;have h8:=h8.symm;subst h8;go_wp2;exact⟨rfl,vQ.err ⟨82,cu.o⟩ (SS.o) ⟨ch,rfl,hf⟩⟩
 ·have LAW:=q_ (UL (dests:=dests) (tables:=aG tables) (d:=d) (env:=env) (ks:=ks) hop)
  obtain⟨dA,dc,tA,tc,hg,jf,nU,JF,FH⟩:=Ek.o.blk;have GB:=q_ hg;have HD3:=q_ JF;clear JF FH hg;go_wp2_with fail;refine ak (KP:=fun _ _=>False) 8 [] (cN w3 100) (by kernel_rfl) (by kernel_rfl) (cN.start w3 100) (fun ch a2 w5 hd hk=>hk.elim) ?_
  iterate 8
   apply ae rfl
   ·intro L vs wx hI hR hL K hK
    first
    |have c0:=fun i=>(GB.o.below hI.below GB.o.lt).cell i
     go_simp;exact hK _ (hI.pure (by decide))
    |have c0:=fun i=>(Nz.o.below hI.below Nz.o.lt).cell i
     go_simp;exact hK _ (hI.pure (by decide))
    |go_simp
     exact(mi x.text dA dests.length dc dests S wx (fun b h=>l_ (Ek.o.there b h) hI.below.size) jf (HD3.o.below hI.below Ek.o.there)).mono fun e w' ⟨h1,h2⟩=>⟨_,h1,hK _ (hI.on h2 (by decide))⟩
   intro KK af;go_simp;refine af _ ?_;clear af KK
  refine aw ?_;intro vs w5 hI;have Mw:=q_ (Mv.o.on hI.below);have ND:=q_ (Ek.o.below hI.below);clear hI;intro KK af;have kg:=fun a w h=>af .normal a w h;simp only[List.drop_succ_cons];by_cases hq:M.fo dests x.text=true
  ·have cu:=q_ (LAW.o.trans (if_pos hq))
   go_wp2_with fail;refine(bL 92 _ _).mono ?_
   rintro e w8 ⟨rfl,h8⟩;have h8:=h8.symm;subst h8;go_wp2;go_end0;exact vQ.ok (cu.o) Mw.o rfl ND.o jY.o Ms.o (cE.refl _ _)
  ·have cu:=q_ (LAW.o.trans (if_neg hq))
   have q8:M.fo dests x.text=false:=by simpa using hq
   clear hq;go_wp2_with fail;refine(cM 92 _ (by decide) _).mono ?_
   rintro e w8 ⟨⟨ch,rfl,hf⟩,h8⟩;have h8:=h8.symm;subst h8;go_wp2;exact af _ _ _ ⟨rfl,vQ.err ⟨92,cu.o⟩ (Mw.o) ⟨ch,rfl,hf⟩⟩
 ·have LAW:=q_ (UM (dests:=dests) (tables:=aG tables) (d:=d) (env:=env) (ks:=ks) hop)
  rcases hop with hop|hop
  ·go_wp2
   go_end0;exact vQ.ok LAW.o Mv.o rfl Ek.o jY.o Ms.o (cE.refl _ _)
  ·go_wp2
   go_end0;exact vQ.ok LAW.o Mv.o rfl Ek.o jY.o Ms.o (cE.refl _ _)
 rcases hop with hop|hop
 all_goals
  obtain⟨t0,tl,rfl⟩:∃t0 tl,ks=t0::tl:=by
   cases ks with
   |nil=>have:=oQ.o;rw[hop] at this;simp[M.cd] at this
   |cons a b=>exact⟨a,b,rfl⟩
  first
  |have LAW:=q_ (Bk (dests:=dests) (tables:=aG tables) (d:=d) (env:=env) (t:=t0) (tl:=tl) hop)
  |have LAW:=q_ (JI (dests:=dests) (tables:=aG tables) (d:=d) (env:=env) (t:=t0) (tl:=tl) hop)
  obtain⟨a1,y1,u1,rfl,ib,fI,hr1,hc1⟩:=P1.o.in1 (k:=0) rfl (by simp);rw[iU] at hc1;simp at fI;subst fI;obtain⟨At,ct,rfl,fE,di⟩:=aU.av (E:=ENode) hr1;obtain⟨a2,y2,u2,rfl,nQ,eI,hr2,hc2⟩:=P2.o.in1 (k:=0) rfl (by simp);rw[iU] at hc2;obtain⟨e2,-⟩:=hr2;simp at e2;subst e2;have gS:=cF (i:=0) (t:=t0) HT.o rfl;rw[WANTED.o] at gS;have KE:=q_ (fun(W:World) (h:Below w3.heap.size w3 W) (z:Int)=>mB d t0 false z g mb D f env dests tables (fun b=>S b\/(N b\/New w1 w3 b)) At ct W gS (M.cw (k:=0) (show M.pz (t0::tl) from iX.o) rfl) ((Ek.o.wide (fun b h=>(.inl h:S b\/(N b\/New w1 w3 b))) (fun b h=>h.elim (fun h=>Ek.o.there b h) (fun h=>(SW.o b h).1))).below h) jY.o fE ((di.below h (fun b h=>(SW.o b h).1)).wide (fun b h=> .inr h)));have Wp:=q_ (show a1.block<w3.heap.size from(SW.o _ ib).1);have j9:=q_ (show a2.block<w3.heap.size from by have:=nQ.2;omega);clear hr1 di eI;rcases pY:M.bG (aG tables) env d false t0 with er|kk
  ·skip
   have gR:=q_ (show∃z,M.bh dests (aG tables) (d+1) env (.mk x (t0::tl))= .error z from⟨er,by rw[LAW.o,pY]⟩);go_wp2_with fail;refine ak (KP:=fun ch w5=>eR ch/\Aside g mb w w5) 12 [] (cN w3 9) (by kernel_rfl) (by kernel_rfl) (cN.start w3 9) (fun ch a2 w5 hd hk=>⟨hd,vQ.err gR.o hk.2 ⟨ch,rfl,hk.1⟩⟩) ?_
   iterate 9
    apply ae rfl
    ·intro L vs wx hI hR hL K hK
     first
     |have c0:=(hI.below.cell (p:=a1) Wp.o).trans hc1
      go_simp;exact hK _ (hI.pure (by decide))
     |have c0:=(hI.below.cell (p:=a2) j9.o).trans hc2
      go_simp;exact hK _ (hI.pure (by decide))
    intro KK af;go_simp;refine af _ ?_;clear af KK
   refine ae (v:= .int .i64 0) rfl ?_ ?_
   ·intro L vs wx hI hR hL K hK
    go_simp;exact((KE.o wx hI.below _).mono fun e w' ⟨hb,he⟩=> .inr (by rw[pY] at he;obtain⟨ch,rfl,hf⟩:=he;exact⟨ch,rfl,hf,Mv.o.on (hI.below.trans (hb.mono hI.below.size))⟩))
   intro KK af;go_simp;refine af _ ?_;clear af KK;refine ae (v:= .int .i64 0) rfl (fun L vs wx hI hR=>absurd (hR 9 (by kernel_rfl)) (by rw[hI.no];simp)) ?_;intro KK af;refine af _ ?_;clear af KK;apply ae rfl
   ·intro L vs wx hI hR hL K hK
    go_simp;exact hK _ (hI.pure (by decide))
   intro KK af;go_simp;refine af _ ?_;clear af KK;refine aw ?_;intro vs w5 hI;exact absurd hI.no (by decide)
  have pX:=q_ pY;clear pY;go_wp2_with fail;refine ak (KP:=fun _ _=>False) 12 [] (cN w3 100) (by kernel_rfl) (by kernel_rfl) (cN.start w3 100) (fun ch a2 w5 hd hk=>hk.elim) ?_
  iterate 9
   apply ae rfl
   ·intro L vs wx hI hR hL K hK
    first
    |have c0:=(hI.below.cell (p:=a1) Wp.o).trans hc1
     go_simp;exact hK _ (hI.pure (by decide))
    |have c0:=(hI.below.cell (p:=a2) j9.o).trans hc2
     go_simp;exact hK _ (hI.pure (by decide))
   intro KK af;go_simp;refine af _ ?_;clear af KK
  refine ae (v:= .int .i64 kk) rfl ?_ ?_
  ·intro L vs wx hI hR hL K hK
   go_simp;exact(KE.o wx hI.below _).mono fun e w' ⟨hb,he⟩=>⟨_,(show e= .returned (.int .i64 kk) by rw[pX.o] at he;exact he),hK _ (hI.on hb (by decide))⟩
  intro KK af;go_simp;refine af _ ?_;clear af KK
  iterate 2
   apply ae rfl
   ·intro L vs wx hI hR hL K hK
    go_simp;exact hK _ (hI.pure (by decide))
   intro KK af;go_simp;refine af _ ?_;clear af KK
  refine aw ?_;intro vs w5 hI;have B5:=q_ hI.below;have Mw:=q_ (Mv.o.on hI.below);have ND:=q_ (Ek.o.below hI.below);have Yp:=q_ (Nz.o.below hI.below Nz.o.lt);clear hI z6;have z6:=fun i=>Yp.o.cell i;intro KK af;have kg:=fun a w h=>af .normal a w h;simp only[List.drop_succ_cons]
 ·skip
  by_cases hq:kk=3
  ·have cu:=q_ (show M.bh dests (aG tables) (d+1) env (.mk x (t0::tl))=M.gH (M.bh dests (aG tables) d) env tl by rw[LAW.o,pX.o];exact if_pos hq)
   have q7:(kk==3)=true:=by simp[hq]
   have QJ:=q_ hop;clear hq;go_wp2_with fail;refine(bL 82 _ _).mono ?_
   rintro e w8 ⟨rfl,h8⟩;have h8:=h8.symm;subst h8;clear z6;have El:tl.length+1<=1048576:=by simpa using UD
   have dC:tl.length+1<=c1:=by simpa using fS.o.2.1
   have hc1n:¬c1=1:=by
    have:=oQ.o;rw[QJ.o] at this;simp[M.cd] at this;omega
   go_wp2_with fail;go_loopw [42] (fun y wr=>∃(k:Nat) (f':cy->Option Int),k<=tl.length/\y= .int .i64 k/\dh wr g mb D f' dests tables S/\fD f' D env/\eW f' D/\cE D f f'/\Aside g mb w5 wr/\∀(i:Nat) (t:M.Tree),i<k->tl[i]? =some t->M.bh dests (aG tables) d env t= .ok env) (fun y _=>tl.length-(intOf y).toNat)
   case atStart=>exact⟨0,f,by omega,rfl,ND.o,jY.o,Ms.o,cE.refl _ _,Aside.refl _ _ _,fun i t hi=>by omega⟩
   case round=>
    obtain⟨k,f',hk,rfl,jH,my,xI,hsm,has,hall⟩:=hrel;have NC:=q_ jH;have UN:=q_ my;have NDR:=q_ xI;have SMR:=q_ hsm;have QM:=q_ has;have nO:=q_ hall;have A3R:=q_ ((Aside.of (g:=g) (mb:=mb) B5.o).trans has);clear jH my xI hsm has hall;by_cases hlt:k<tl.length
    ·have q1:decide ((k:Int)<(tl.length:Int))=true:=by simp;omega
     obtain⟨t,dY⟩:∃t,tl[k]? =some t:=⟨_,e_ hlt⟩
     obtain⟨b1,y1,u1,xH,ib,fI,hr1,jf⟩:=(A3R.o.nu P1.o SW.o).in1 (k:=k+1) rfl (by simp;omega);injection xH with xH;subst xH;simp[dY] at fI;subst fI;obtain⟨NF,NG,rfl,ln,jS⟩:=aU.av (E:=ENode) hr1;obtain⟨b2,y2',u2,eb2,nQ,eI,hr2,nU⟩:=(A3R.o.nu P2.o (fun b h=>SW.o b (.inr h))).in1 (k:=k+1) rfl (by simp;omega);injection eb2 with eb2;subst eb2;obtain⟨e2,-⟩:=hr2;simp at e2;subst e2;have gS:=cF (i:=k+1) (t:=t) HT.o (by simpa using dY);rw[vR QJ.o] at gS;have KID:=q_ gS;have BK:=q_ (fun(z:Int)=>BL.o t z g mb D f' env dests tables S (fun b=>N b\/New w1 w3 b) NF NG wr gS (M.cw (k:=k+1) (show M.pz (t0::tl) from iX.o) (by simpa using dY)) NC.o UN.o NDR.o Mt.o Ou.o (fun b h=>⟨l_ (SW.o b h).1 A3R.o.size,(SW.o b h).2⟩) (by have:=HDD.o;omega) ln jS);have Ml:=q_ dY;have cc1:wr.cell? ⟨a1.block,a1.off+1+k,none⟩=some (.slice NF (M.flat t).length NG):=(Wo a1 k)▸jf
     have cc2:wr.cell? ⟨a2.block,a2.off+(k+1),none⟩=some (.int .i64 y2'):=by
      have h:=nU
      rwa [Wo,show a2.off+1+k=a2.off+(k+1) by omega] at h
     have cc3:wr.cell? ⟨a2.block,a2.off+k+1,none⟩=some (.int .i64 y2'):=cc2;clear hr1 jS gS dY jf nU eI;cases hG:M.bh dests (aG tables) d env t with
     |error er=>
      have gR:=q_ (show∃z,M.bh dests (aG tables) (d+1) env (.mk x (t0::tl))= .error z from by
       obtain⟨e',h'⟩:=yT tl k t er nO.o Ml.o hG;exact⟨e',cu.o.trans h'⟩)
      go_wp2_with fail;refine(BK.o _).mono ?_
      rintro e w7 ⟨ha,he⟩;rw[hG] at he;obtain⟨ch,rfl,hf⟩:=he;go_wp2;exact⟨rfl,vQ.err gR.o ((Mw.o.trans QM.o).trans ha) ⟨ch,rfl,hf⟩⟩
     |ok cS=>
      obtain rfl:=Ej KID.o hG;have HG2:=q_ hG;go_wp2_with fail;refine(BK.o _).mono ?_
      rintro e w7 ⟨ha,he⟩;rw[hG] at he;obtain⟨rfl,Z2,h1,h2,h3,h4⟩:=he;have QO:=q_ h1;have Yq:=q_ h2;have ND7:=q_ h3;have SM7:=q_ (SMR.o.trans h4);have SS:=q_ (QM.o.trans ha);clear h1 h2 h3 h4 ha hG;go_wp2;go_roundw
      case rel=>exact⟨k+1,Z2,by omega,by go_num,QO.o,Yq.o,ND7.o,SM7.o,SS.o,fun i t' hi kH=>by
       rcases Nat.lt_or_ge i k with h1|h1
       ·exact nO.o i t' h1 kH
       ·obtain rfl:i=k:=by omega
        rw[Ml.o] at kH;cases kH;exact HG2.o⟩
      case measure=>simp[intOf];omega
    ·have lu:k=tl.length:=by omega
     have q1:decide ((k:Int)<(tl.length:Int))=false:=by simp;omega
     have Qw:=q_ (cu.o.trans (yS tl (fun t ht=>by
      obtain⟨i,hi,rfl⟩:=List.getElem_of_mem ht;exact nO.o i _ (by omega) (e_ hi))))
     go_wp2;go_end0;exact vQ.ok Qw.o (Mw.o.trans QM.o) rfl NC.o UN.o NDR.o SMR.o
  ·have cu:=q_ (show M.bh dests (aG tables) (d+1) env (.mk x (t0::tl))= .error 82 by rw[LAW.o,pX.o];exact if_neg hq)
   have q7:(kk==3)=false:=by simp[hq]
   clear hq;go_wp2_with fail;refine(cM 82 _ (by decide) _).mono ?_
   rintro e w8 ⟨⟨ch,rfl,hf⟩,h8⟩;have h8:=h8.symm;subst h8;go_wp2;exact af _ _ _ ⟨rfl,vQ.err ⟨82,cu.o⟩ (Mw.o) ⟨ch,rfl,hf⟩⟩
 ·skip
  by_cases hq:kk=1
  ·have cu:=q_ (show M.bh dests (aG tables) (d+1) env (.mk x (t0::tl))= .ok env by rw[LAW.o,pX.o];exact if_pos hq)
   have q7:(kk==1)=true:=by simp[hq]
   clear hq;go_wp2_with fail;refine(bL 82 _ _).mono ?_
   rintro e w8 ⟨rfl,h8⟩;have h8:=h8.symm;subst h8;go_wp2;go_end0;exact vQ.ok (cu.o) Mw.o rfl ND.o jY.o Ms.o (cE.refl _ _)
  ·have cu:=q_ (show M.bh dests (aG tables) (d+1) env (.mk x (t0::tl))= .error 82 by rw[LAW.o,pX.o];exact if_neg hq)
   have q7:(kk==1)=false:=by simp[hq]
   clear hq;go_wp2_with fail;refine(cM 82 _ (by decide) _).mono ?_
   rintro e w8 ⟨⟨ch,rfl,hf⟩,h8⟩;have h8:=h8.symm;subst h8;go_wp2;exact af _ _ _ ⟨rfl,vQ.err ⟨82,cu.o⟩ (Mw.o) ⟨ch,rfl,hf⟩⟩
abbrev QP(w:World)(b r:Nat)(f:cy->Option Int)(todo:cy->Prop)(n:Nat):Prop:=fp Tryz.prog 152 lh w b r (fun x=>(f x).map (Value.int .i64)) todo n
theorem fp.congr{k:TypeId}{f g:κ->Option Value}{todo:κ->Prop}(h:fp P k enc w b r f todo n)(e:∀x,f x=g x):fp P k enc w b r g todo n:=by
 have:f=g:=funext e;exact this▸h
def sw(f:cy->Option Int)(x:cy):cy->Option Int:=fun y=>if y=x then none else f y
theorem QP.drop{x:cy}{todo:cy->Prop}(h:fp Tryz.prog 152 lh w b r (fun z=>if z=x then none else(f z).map (Value.int .i64)) todo n):QP w b r (sw f x) todo n:=
 h.congr fun y=>by
  show _=(sw f x y).map (Value.int .i64);unfold sw;by_cases hy:y=x
  ·rw[if_pos hy,if_pos hy];rfl
  ·rw[if_neg hy,if_neg hy]
theorem Mx{ja7:List (ByteArray×Int)}(h:M.gH G env ks=M.gH G vS (ks.drop k))(ht:ks[k]? =some t)(hG:G vS t= .ok ja7):M.gH G env ks=M.gH G ja7 (ks.drop (k+1)):=by
 obtain⟨hk,rfl⟩:=g_ ht;rw[h,List.drop_eq_getElem_cons hk]
 conv=>lhs;unfold M.gH
 rw[hG]
theorem My{e:Int}(h:M.gH G env ks=M.gH G vS (ks.drop k))(ht:ks[k]? =some t)(hG:G vS t= .error e):M.gH G env ks= .error e:=by
 obtain⟨hk,rfl⟩:=g_ ht;rw[h,List.drop_eq_getElem_cons hk]
 conv=>lhs;unfold M.gH
 rw[hG]
theorem JL(h:x.op=0):M.bh dests tables (d+1) env (.mk x ks)=match M.gH (M.bh dests tables d) env ks with| .error e=> .error e| .ok _=> .ok env:=by
 conv=>lhs;unfold M.bh
 rw[if_pos h];rfl
theorem yU(h:M.b7 op=1):op=0:=by
 unfold M.b7 at h;split at h
 ·assumption
 ·split at h
  ·simp at h
  ·split at h<;>simp at h
theorem Em(h:x.op=0):M.wanted x k=2:=by unfold M.wanted;rw[if_pos h]
theorem vT(h:w.grownBy w' none):Below w.heap.size w w':=⟨h.os,h.tape,h.output,h.size,fun b hb=>h.block b hb (by simp)⟩
theorem fp.todo{k:TypeId}{f:κ->Option Value}{t t':κ->Prop}(h:fp P k enc w b r f t n)(e:∀x,t x<->t' x):fp P k enc w b r f t' n:=by
 have:t=t':=funext fun x=>propext (e x);exact this▸h
theorem dh.rest{g:Nat}{tables:List M.Table}(h:dh w g mb D f dests tables S)(hg:w.grownBy w' (some r))(h1:r≠g)(h2:r≠mb)(h3:¬S r):dh w' g mb D f dests tables S:=by
 obtain⟨dA,dc,tA,tc,k1,k2,k3,k4,k5⟩:=h.blk;have hk:∀p:Addr,S p.block->w'.cell? p=w.cell? p:=fun p hp=>World.cell?_of_block (hg.block _ (h.there _ hp) (fun e=>h3 (by injection e with e;exact e▸hp)));exact⟨⟨dA,dc,tA,tc,k1.grown hg (fun e=>h1 (by injection e with e;exact e.symm)),k2,k3,k4.keep (fun _ h=>h) hk,k5.keep (fun _ h=>h) hk⟩,h.map.grown hg (fun e=>h2 (by injection e with e;exact e.symm)),fun b hb=>l_ (h.there b hb) hg.size,h.deep⟩
theorem Aside.news{g:Nat}{w'':World}(h:Aside g mb w w')(hr:w.heap.size<=r)(hg:w'.grownBy w'' (some r)):Aside g mb w w'':=
 ⟨hg.os.trans h.os,hg.tape.trans h.tape,hg.output.trans h.output,t_ h.size hg.size,fun b hb h1 h2=>(hg.block b (l_ hb h.size) (fun e=>by injection e;omega)).trans (h.block b hb h1 h2)⟩
theorem dh.step{g D':Nat}{tables:List M.Table}(h:dh w g mb D f dests tables S)(SR:g≠mb)(Be:∀b,S b->b≠g/\b≠mb)(hD:D'<=1000)(hw:w'=w.setCell ⟨g,3,none⟩ (.int .i64 (D':Int))):dh w' g mb D' f dests tables S/\Aside g mb w w':=by
 obtain⟨dA,dc,tA,tc,h1,h2,h3,h4,h5⟩:=h.blk;have hg:w.grownBy w' (some g):=hw▸aV w g 3 _;have hk:∀p:Addr,S p.block->w'.cell? p=w.cell? p:=fun p hp=>World.cell?_of_block (hg.block _ (h.there _ hp) (fun e=>(Be _ hp).1 (by injection e)));refine⟨⟨⟨dA,dc,tA,tc,?_,h2,h3,h4.keep (fun _ h=>h) hk,h5.keep (fun _ h=>h) hk⟩,h.map.grown hg (fun e=>SR (by injection e with e;exact e.symm)),fun b hb=>l_ (h.there b hb) hg.size,hD⟩,(Aside.refl g mb w).grown (.inl rfl) hg⟩;rw[hw];exact h1.fK 3 _
theorem Yr(d:Nat)(hst:Ym d):Yn (d+1):=by
 intro t at_ g mb D f env dests tables S N A c w hT bf jH my xI SR Be Z3 hDd aI hl;cases t with
 |mk x ks=>
 have hm:=aI.le;obtain⟨dM,fj,fk⟩:=cU hT;have hop:=yU dM;have kf:M.flat (.mk x ks)=x::M.bB ks:=by unfold M.flat;rfl
 have hDD:D<=900:=by omega
 have jY:=q_ my;have Ms:=q_ xI;have Bf:=q_ bf;have nk:=q_ aI;have HL:=q_ hl;have HT:=q_ hT;have SL:=q_ hst;have Ou:=q_ Be;have Z6:=q_ Z3;have Mt:=q_ SR;have mq:=q_ hop;have HDP:=q_ hDd;have LAW:=q_ (JL (dests:=dests) (tables:=aG tables) (d:=d) (env:=env) (ks:=ks) hop);have ua:=jH.blk;obtain⟨dA,dc,tA,tc,hB0,-⟩:=ua;have hG:=hB0.lt;have HMB:=q_ (show mb<w.heap.size from jH.map.lt)
 have UD:ks.length<=1048576:=by
  have h1:=M.dx ks;have h2:(M.flat (.mk x ks)).length=(M.bB ks).length+1:=by rw[kf];rfl
  omega
 have iX:=q_ (show M.pz ks by unfold M.mh at bf;exact bf.2);obtain⟨w1,bu⟩:∃w1,w1=w.setCell ⟨g,3,none⟩ (.int .i64 ((D:Int)+1)):=⟨_,rfl⟩
 obtain⟨ja8,UO⟩:=jH.step SR Be (D':=D+1) (by omega) bu;have CK1:=q_ ja8;have AS1:=q_ UO;have qL:=q_ (fun b (h:N b)=>l_ (Z6.o b h).1 UO.size);have L1:=q_ (UO.nu hl Z3);have KP:=q_ (fh x ks Bf.o A (M.flat (.mk x ks)).length c N w1 qL.o nk.o L1.o);generalize Jo:(M.flat (.mk x ks)).length=m at*;have zc:=hB0.cell;have fz:w.frozen? ⟨g,3,none⟩=false:=hB0.frozen _;clear hl jH my bf aI hT hst kf dM fj fk hop Be Z3 SR xI ja8 UO hB0 hDd;have tC:=bu.symm;clear bu;go_enter Tryz.func32,Tryz.ntmps32;go_wp2_with fail;clear tC;refine KP.o.mono ?_;rintro e w3 ⟨A1,c1,A2,c2,rfl,kY,hk2,dF,hl2,hb3⟩;have P1:=q_ dF;have P2:=q_ hl2;have fS:=q_ kY;have ZZ:=q_ hk2;have SW:=q_ (show∀b,(N b\/New w1 w3 b)->b<w3.heap.size/\b≠g/\b≠mb from fun b h=>h.elim (fun h=>⟨l_ (qL.o b h) hb3.size,(Z6.o b h).2⟩) (fun h=>⟨h.2,by have:=h.1;have:=AS1.o.size;omega,by have:=HMB.o;have:=h.1;have:=AS1.o.size;omega⟩));have hs3:=hb3.size;have Ek:=q_ (CK1.o.below hb3);have Mv:=q_ (AS1.o.on hb3);clear kY hk2 dF hl2 hb3 zc fz KP
 have dC:ks.length<=c1:=by simpa using fS.o.2.1
 go_wp2_with fail;go_loopw [25] (fun y wr=>∃(k:Nat) (f1:cy->Option Int) (vS:List (ByteArray×Int)),k<=ks.length/\y= .int .i64 k/\dh wr g mb (D+1) f1 dests tables S/\fD f1 (D+1) vS/\eW f1 (D+1)/\cE ((D+1:Nat):Int) f f1/\Aside g mb w3 wr/\M.gH (M.bh dests (aG tables) d) env ks=M.gH (M.bh dests (aG tables) d) vS (ks.drop k)) (fun y _=>ks.length-(intOf y).toNat)
 case atStart=>exact⟨0,f,env,by omega,rfl,Ek.o,jY.o.up Ms.o,Ms.o.up,cE.refl _ _,Aside.refl _ _ _,by rw[List.drop_zero]⟩
 case round=>
  obtain⟨k,f1,vS,hk,rfl,jH,my,xI,hsm,has,jg⟩:=hrel;have NC:=q_ jH;have UN:=q_ my;have NDR:=q_ xI;have SMR:=q_ hsm;have QM:=q_ has;have Mi:=q_ jg;clear jH my xI hsm has jg;by_cases hlt:k<ks.length
  ·have q1:decide ((k:Int)<(ks.length:Int))=true:=by simp;omega
   obtain⟨t,dY⟩:∃t,ks[k]? =some t:=⟨_,e_ hlt⟩
   obtain⟨b1,y1,u1,xH,ib,fI,hr1,jf⟩:=(QM.o.nu P1.o SW.o).in1 (k:=k) rfl (by omega);subst xH;simp[dY] at fI;subst fI;obtain⟨NF,NG,rfl,ln,jS⟩:=aU.av (E:=ENode) hr1;obtain⟨b2,y2',u2,eb2,nQ,eI,hr2,nU⟩:=(QM.o.nu P2.o (fun b h=>SW.o b (.inr h))).in1 (k:=k) rfl (by omega);subst eb2;obtain⟨e2,-⟩:=hr2;simp at e2;subst e2;have gS:=cF (i:=k) (t:=t) HT.o dY;rw[Em mq.o] at gS;have BK:=q_ (fun(z:Int)=>SL.o t z g mb (D+1) f1 vS dests tables S (fun b=>N b\/New w1 w3 b) NF NG wr gS (M.cw (k:=k) iX.o dY) NC.o UN.o NDR.o Mt.o Ou.o (fun b h=>⟨l_ (SW.o b h).1 QM.o.size,(SW.o b h).2⟩) (by have:=HDP.o;omega) ln jS);have Ml:=q_ dY;clear hr1 jS gS dY eI;cases hG:M.bh dests (aG tables) d vS t with
   |error er=>
    have gR:=q_ (show∃z,M.bh dests (aG tables) (d+1) env (.mk x ks)= .error z from by
     have h':=My Mi.o Ml.o hG;exact⟨er,by rw[LAW.o,h']⟩)
    go_wp2_with fail;refine(BK.o _).mono ?_
    rintro e w7 ⟨ha,he⟩;rw[hG] at he;obtain⟨ch,rfl,hf⟩:=he;go_wp2;exact⟨rfl,vQ.err gR.o ((Mv.o.trans QM.o).trans ha) ⟨ch,rfl,hf⟩⟩
   |ok cS=>
    have jcj:=q_ (Mx Mi.o Ml.o hG);go_wp2_with fail;refine(BK.o _).mono ?_
    rintro e w7 ⟨ha,he⟩;rw[hG] at he;obtain⟨rfl,Z2,h1,h2,h3,h4⟩:=he;have QO:=q_ h1;have Yq:=q_ h2;have ND7:=q_ h3;have SM7:=q_ (SMR.o.trans h4);have SS:=q_ (QM.o.trans ha);clear h1 h2 h3 h4 ha hG;go_wp2;go_roundw
    case rel=>exact⟨k+1,Z2,cS,by omega,by go_num,QO.o,Yq.o,ND7.o,SM7.o,SS.o,jcj.o⟩
    case measure=>simp[intOf];omega
  ·obtain rfl:k=ks.length:=by omega
   have q1:decide ((ks.length:Int)<(ks.length:Int))=false:=by simp
   have Qw:=q_ (show M.bh dests (aG tables) (d+1) env (.mk x ks)= .ok env by
    rw[LAW.o,Mi.o,List.drop_length];unfold M.gH;rfl)
   obtain⟨dA2,dc2,tA2,tc2,UQ,-⟩:=NC.o.blk;have zc:=UQ.cell;have ZR:=q_ (show g<wr.heap.size from UQ.lt)
   go_wp2_with (first
    |(at_range;refine vq rfl (.tmp 43) 74 3 rfl Tryz.underlying74 NC.o.map jW (by rfl) ?_;intro w5 n0 hrg0 hg0 hs0)
    |fail)
   have ND:=q_ (NC.o.below (vT hg0));have Mw:=q_ ((Mv.o.trans QM.o).on (vT hg0));have RG5:=q_ (show QP w5 mb wr.heap.size f1 (fun x=>(f1 x).isSome=true) n0 from hrg0.todo (fun x=>by simp));have HSR:=q_ (show∀b,S b->b<wr.heap.size from NC.o.there);have HWR:=q_ (show w.heap.size<=wr.heap.size by have:=QM.o.size;have:=Mv.o.size;omega);clear hrg0 hg0 zc UQ
   go_frame
   clear hs0;generalize wr.heap.size=R0 at RG5 ZR HSR HWR⊢;go_loopw [] (fun wx=>∃(f2:cy->Option Int) (todo:cy->Prop) (n:Nat),QP wx mb R0 f2 todo n/\dh wx g mb (D+1) f2 dests tables S/\Aside g mb w wx/\w5.heap.size<=wx.heap.size/\cE ((D+1:Nat):Int) f f2/\(∀nm,todo (((D+1:Nat):Int),nm)\/f2 (((D+1:Nat):Int),nm)=none)/\eW f2 (D+1)) (fun wx=>wx.rangeLeft mb R0)
   case atStart=>exact⟨f1,_,n0,RG5.o,ND.o,Mw.o,n_,SMR.o,fun nm=>by
    cases f1 (((D+1:Nat):Int),nm) with
    |none=>exact .inr rfl
    |some v=>exact .inl rfl,NDR.o⟩
   case round=>
    obtain⟨f2,todo,n,hrg,jH,has,hsz,hsm,htd,xI⟩:=hrel;have RGX:=q_ hrg;have CKX:=q_ jH;have ASX:=q_ has;have SMX:=q_ hsm;have TDX:=q_ htd;have NDX:=q_ xI;clear hrg jH has hsm htd xI
    go_wp2_with (first
     |(at_next;refine xy rfl _ rfl RGX.o jW (by rfl) ?_ ?_)
     |fail)
    ·intro Eh hnone
     have HF:=q_ (show f2=f from by
      funext ⟨kk,nm⟩;rcases Int.lt_trichotomy kk ((D+1:Nat):Int) with h|h|h
      ·exact SMX.o kk nm h
      ·subst h
       rw[Ms.o _ nm (by omega)];exact(TDX.o nm).resolve_left (hnone _ _)
      ·rw[Ms.o kk nm (by omega),NDX.o kk nm (by omega)])
     obtain⟨dA2,dc2,tA2,tc2,UQ,-⟩:=CKX.o.blk;have zc:=UQ.cell;have zf:=UQ.frozen;have e1:((D+1:Nat):Int)-1=(D:Int):=by omega
     clear Eh hnone;go_wp2;go_end0;obtain⟨hA,hB⟩:=CKX.o.step (D':=D) Mt.o Ou.o (by omega) (w':=wr.setCell ⟨g,3,none⟩ (.int .i64 (D:Int))) rfl;rw[HF.o] at hA;exact vQ.ok Qw.o (ASX.o.trans hB) rfl hA jY.o Ms.o (cE.refl _ _)
    ·intro kd kn vv w6 n6 Wq kv hfx hvv kl nM ja9 hn6 oH jL hen
     subst hvv;have RG6:=q_ ja9;have CK6:=q_ (CKX.o.rest oH (by have:=ZR.o;omega) RGX.o.ne (fun h=>by have:=HSR.o _ h;omega));have AS6:=q_ (ASX.o.news HWR.o oH);have ue:=q_ nM;have Qf:=q_ (show w5.heap.size<=w6.heap.size by omega);have HN6:=q_ hn6;have HTD:=q_ Wq;clear ja9 oH Wq hfx nM hn6 jL;simp only[lh] at hen;have KB:=q_ (ar.new w6 152 #[.int .i64 kd,.string kn]);have B7:=q_ ((Below.refl _ w6).alloc (n_) (.cells #[.int .i64 kd,.string kn] 152));have QO:=q_ (CK6.o.below B7.o);have SS:=q_ (AS6.o.on B7.o);have RG7:=q_ (RG6.o.below B7.o RG6.o.map.lt RG6.o.lt);have HS7:=q_ B7.o.size;unfold lh;go_wp2_with fail;generalize w6.alloc (.cells #[.int .i64 kd,.string kn] 152)=w7 at KB B7 QO SS RG7 HS7⊢;obtain⟨dA2,dc2,tA2,tc2,UQ,-⟩:=QO.o.blk;have CB:=q_ UQ;clear UQ hen;refine aO 7 [] aj (fun _=>none) (by kernel_rfl) (by kernel_rfl) aj.refl (by simp) (aj.draw _) aj.trans (fun j φ v x y hB=>by cases hB) ?_
     iterate 7
      apply au rfl rfl
      ·intro vs wx hk K hK
       first
       |have c0:=fun i=>(KB.o.stays hk.1).cell i
        go_simp;exact hK _ (aj.refl _)
       |have c0:=fun i=>(CB.o.stays hk.1).cell i
        go_simp;exact hK _ (aj.refl _)
      intro KK af;go_simp;refine af _ ?_;clear af KK
     refine bg ?_;intro vs w8 Hx _;intro KK af;simp only[List.drop_succ_cons,List.drop_zero];have Z7:=q_ (QO.o.below Hx);have AS8:=q_ (SS.o.on Hx);have RG8:=q_ (RG7.o.below Hx RG7.o.map.lt RG7.o.lt);have KB8:=q_ (KB.o.stays Hx);have CB8:=q_ (CB.o.stays Hx);have HS8:=q_ Hx.size;clear Hx;by_cases hq:kd=(D:Int)+1
     ·have q1:(kd==(D:Int)+1)=true:=by rw[hq];exact beq_self_eq_true _
      have HQ:=q_ (show kd=((D+1:Nat):Int) from hq);clear hq;go_wp2_with fail;refine aO 5 [] aj (fun _=>none) (by kernel_rfl) (by kernel_rfl) aj.refl (by simp) (aj.draw _) aj.trans (fun j φ v x y hB=>by cases hB) ?_
      iterate 5
       apply au rfl rfl
       ·intro vs wx hk K hK
        first
        |have c0:=fun i=>(CB8.o.stays hk.1).cell i
         go_simp;exact hK _ (aj.refl _)
        |have c0:=fun i=>(KB8.o.stays hk.1).cell i
         go_simp;exact hK _ (aj.refl _)
       intro KK af;go_simp;refine af _ ?_;clear af KK
      refine bg ?_;intro vs w9 hs9 _;intro KK af;simp only[List.drop_succ_cons,List.drop_zero];have CK9:=q_ (Z7.o.below hs9);have AS9:=q_ (AS8.o.on hs9);have RG9:=q_ (RG8.o.below hs9 RG8.o.map.lt RG8.o.lt);have HS9:=q_ hs9.size;clear hs9;refine AP rfl (.tmp 59) (.tmp 60) 74 3 rfl RG9.o rh Tryz.underlying74 jW (by rfl) (kd,kn) (by rfl) ⟨kl,ue.o⟩ ?_;intro w10 n10 hrg hn hg hs;have RGA:=q_ (QP.drop hrg);have CKA:=q_ (CK9.o.put hg RGA.o.map Mt.o Ou.o);have ASA:=q_ (AS9.o.grown (.inr rfl) hg);have HSA:=q_ hs;have HNA:=q_ hn;clear hrg hg hs hn;go_wp2;go_roundw
      case rel=>exact⟨_,_,_,_,_,_,_,_,_,_,_,_,_,_,_,_,_,⟨sw f2 (kd,kn),_,n10,RGA.o,CKA.o,ASA.o,by have:=HS9.o;have:=HS8.o;have:=HS7.o;have:=Qf.o;have:=HSA.o;omega,fun kk nm hk=>by
       unfold sw;rw[if_neg (fun e=>by injection e with e1 e2;have:=HQ.o;omega)];exact SMX.o kk nm hk,fun nm=>by
       by_cases hc:(((D+1:Nat):Int),nm)=(kd,kn)
       ·exact .inr (by unfold sw;rw[if_pos hc])
       ·exact(TDX.o nm).imp (fun h=>⟨⟨h,hc⟩,hc⟩) (fun h=>by unfold sw;rw[if_neg hc];exact h),fun kk nm hk=>by
       unfold sw;split
       ·rfl
       ·exact NDX.o kk nm hk⟩,rfl⟩
      case measure=>
       rw[RGA.o.left_eq,RGX.o.left_eq];exact Nat.lt_of_le_of_lt HNA.o HN6.o
     ·have q1:(kd==(D:Int)+1)=false:=by simpa using hq
      have HQ:=q_ (show kd≠((D+1:Nat):Int) from hq);clear hq;go_wp2;go_roundw
      case rel=>exact⟨f2,_,n6,RG8.o,Z7.o,AS8.o,by have:=HS8.o;have:=HS7.o;have:=Qf.o;omega,SMX.o,fun nm=>(TDX.o nm).imp (fun h=>⟨h,fun e=>HQ.o (by injection e with e1 e2;exact e1.symm)⟩) id,NDX.o⟩
      case measure=>
       rw[RG8.o.left_eq,RGX.o.left_eq];exact HN6.o
theorem vU:∀d,Yn d/\Ym d
 |0=>⟨fun t _ _ _ _ _ _ _ _ _ _ _ _ _ h=>by simp[M.jP] at h,fun t _ _ _ _ _ _ _ _ _ _ _ _ _ h=>by simp[M.jP] at h⟩
 |d+1=>⟨Yr d (vU d).2,Yo d (vU d).1⟩
theorem p9{c:Code}{Q:Exit->Act->World->Prop}{t t':Array Value}{d:List Deferred}{w:World}(h:t=t')(g:Code.wp Tryz.prog c Q {tmps:=t',defers:=d} w):Code.wp Tryz.prog c Q {tmps:=t,defers:=d} w:=h▸g
theorem En(a b:Addr)(w:World):CallsD Tryz.prog 91 #[.pointer (some a),.pointer (some b)] .returning w fun e u' w'=>e= .returned (.tuple #[])/\u'= .returning/\w'=w:=by
 refine callsD_of_wpS Tryz.func91 rfl fun qa cs hu=> ?_;apply wpS_seq;apply wpS_region;simp[wpOpsS,go_sem,recoverD,hu,Tryz.ntmps91,Exit.thenS];refine wpS_of_wp ?_;refine p9 (t':=#[.pointer (some a),.pointer (some b),.nilIface,undef,undef,.nilIface,undef,undef,undef,undef,undef,undef,undef,undef,undef,undef,undef,undef,undef,undef]) (by kernel_rfl) ?_;go_wp2;cases qa;simp_all [bodyPostS,results,Tryz.results91]
structure fW(W0:World)(a b:Nat)(T1 T2:TypeId)(u1 u2:Value)(L:Nat->Bool)(vs:Nat->Value)(w:World):Prop where
 turns:ax (fun q=>q=a\/q=b) W0 w
 ka:∃v,ar w a T1 #[v]/\(L 4=true->v=u1)
 kb:∃v,ar w b T2 #[v]/\(L 5=true->v=u2)
section
variable {W0 w:World} {a b:Nat} {T1 T2:TypeId} {u1 u2 x y:Value} {L:Nat->Bool} {vs:Nat->Value}
theorem fW.start(ha:ar W0 a T1 #[x])(hb:ar W0 b T2 #[y]):fW W0 a b T1 T2 u1 u2 (fun _=>false) vs {W0 with drawn:=W0.drawn+1}:=
 ⟨⟨rfl,rfl,rfl,n_,fun _ _ _=>rfl⟩,⟨x,ha,fun h=>by cases h⟩,⟨y,hb,fun h=>by cases h⟩⟩
theorem fW.pure(h:fW W0 a b T1 T2 u1 u2 L vs w){k:Nat}{v:Value}(hk:k≠4)(hk2:k≠5):fW W0 a b T1 T2 u1 u2 (upd L k) (aS vs k v) w:=by
 have e4:upd L k 4=L 4:=by simp[upd,Ne.symm hk]
 have e5:upd L k 5=L 5:=by simp[upd,Ne.symm hk2]
 exact⟨h.turns,by rw[e4];exact h.ka,by rw[e5];exact h.kb⟩
theorem fW.LG(h:fW W0 a b T1 T2 u1 u2 L vs w)(hne:a≠b):fW W0 a b T1 T2 u1 u2 (upd L 4) (aS vs 4 undef) (w.setCell ⟨a,0,none⟩ u1):=by
 obtain⟨x,k1,_⟩:=h.ka;obtain⟨y,k2,k3⟩:=h.kb;exact⟨h.turns.trans (ml:=fun q=>q=a) ((ax.refl _ w).grown (fun _=>rfl) (aV w a 0 u1)) (fun b _ h=> .inl h),⟨u1,k1.one_set u1,fun _=>rfl⟩,⟨y,k2.far (fun e=>hne e.symm) _,k3⟩⟩
theorem fW.XV(h:fW W0 a b T1 T2 u1 u2 L vs w)(hne:a≠b):fW W0 a b T1 T2 u1 u2 (upd L 5) (aS vs 5 undef) (w.setCell ⟨b,0,none⟩ u2):=by
 obtain⟨x,k1,k3⟩:=h.ka;obtain⟨y,k2,_⟩:=h.kb;exact⟨h.turns.trans (ml:=fun q=>q=b) ((ax.refl _ w).grown (fun _=>rfl) (aV w b 0 u2)) (fun b _ h=> .inr h),⟨x,k1.far hne _,k3⟩,⟨u2,k2.one_set u2,fun _=>rfl⟩⟩
end
theorem QQ(v:Value)(W:World):(Instr.typeAssert (.iface 149 v) 20 149 true).run Tryz.prog W= .ok (.tuple #[v,.bool true]) W:=by kernel_rfl
theorem Bl(a b:Nat)(k z:Int)(x y:Value)(w:World)(ha:ar w a 36 #[x])(hb:ar w b 3 #[y])(hne:a≠b):
 CallsD Tryz.prog 91 #[.pointer (some ⟨a,0,none⟩),.pointer (some ⟨b,0,none⟩)] (.panicking [{v:= .iface 149 (.agg #[.int .i64 k,.int .i64 z]),recovered:=false}]) w fun e u' w'=>
  e= .returned (.tuple #[])/\u'= .panicking [{v:= .iface 149 (.agg #[.int .i64 k,.int .i64 z]),recovered:=true}]/\ax (fun q=>q=a\/q=b) w w'/\ar w' a 36 #[.int .i64 k]/\ar w' b 3 #[.int .i64 z]:=by
 refine callsD_of_wpS Tryz.func91 rfl fun qa cs hu=> ?_;have HA:=q_ ha;have HB:=q_ hb;clear ha hb;apply wpS_seq;apply wpS_region;simp[wpOpsS,go_sem,recoverD,hu,Tryz.ntmps91,Exit.thenS];refine wpS_of_wp ?_;refine p9 (t':=#[.pointer (some ⟨a,0,none⟩),.pointer (some ⟨b,0,none⟩),.iface 149 (.agg #[.int .i64 k,.int .i64 z]),undef,undef,.iface 149 (.agg #[.int .i64 k,.int .i64 z]),undef,undef,undef,undef,undef,undef,undef,undef,undef,undef,undef,undef,undef,undef]) (by kernel_rfl) ?_;have hta:=QQ (.agg #[.int .i64 k,.int .i64 z]);have K1:=q_ (ar.new w 149 #[.int .i64 k,.int .i64 z]);have B1:=q_ ((Below.refl _ w).alloc (n_) (.cells #[.int .i64 k,.int .i64 z] 149));go_wp2_with fail;have B4:=q_ B1.o;have A4:=q_ (HA.o.below B4.o HA.o.lt);have C4:=q_ (HB.o.below B4.o HB.o.lt);have ZF:a≠w.heap.size:=fun e=>by have:=HA.o.lt;omega
 have XE:b≠w.heap.size:=fun e=>by have:=HB.o.lt;omega
 have hs1:(w.alloc (.cells #[.int .i64 k,.int .i64 z] 149)).heap.size=w.heap.size+1:=by simp
 generalize w.alloc (.cells #[.int .i64 k,.int .i64 z] 149)=w1 at K1 B1 B4 A4 C4 hs1⊢;refine ak (KP:=fun _ _=>False) 6 [] (fW w1 a b 36 3 (.int .i64 k) (.int .i64 z)) (by kernel_rfl) (by kernel_rfl) (fW.start A4.o C4.o) (fun ch a2 w5 hd hk=>hk.elim) ?_
 iterate 6
  apply ae rfl
  ·intro L vs wx hI hR hL K hK
   first
   |have c0:=fun i=>(hI.turns.blk K1.o (by rintro(e|e)<;>omega)).cell i
    go_simp;exact hK _ (hI.pure (by decide) (by decide))
   |obtain⟨v0,hv0,-⟩:=hI.ka
    have c0:=fun i=>hv0.cell i;have f0:=fun i=>hv0.frozen i;go_simp;exact hK _ (hI.LG hne)
   |obtain⟨v0,hv0,-⟩:=hI.kb
    have c0:=fun i=>hv0.cell i;have f0:=fun i=>hv0.frozen i;go_simp;exact hK _ (hI.XV hne)
  intro KK af;go_simp;refine af _ ?_;clear af KK
 refine aw ?_;intro vs w5 hI;intro KK af;have kg:=fun a w h=>af .normal a w h;simp only[List.drop_succ_cons,List.drop_nil];obtain⟨h1,⟨v1,h2,h3⟩,⟨v2,h4,h5⟩⟩:=hI;obtain rfl:=h3 (by decide);obtain rfl:=h5 (by decide);have T5:=q_ ((ax.of (Mu:=fun q=>q=a\/q=b) B4.o).trans h1 (fun _ _ h=>h));clear hu h1 h3 h5;go_wp2_with fail;simp[bodyPostS,results,Tryz.results91];exact⟨T5.o,h2,h4⟩
theorem Eo(a b:Addr)(w:World)(ok:Prop)(Mu:Nat->Prop)(Ys:∀q,Mu q->q<w.heap.size)(Ug:∀w1,Below w.heap.size w w1->Calls Tryz.prog 31 #[.pointer (some a),.pointer (some b)] w1 fun e w'=>ax Mu w1 w'/\((ok/\e= .returned (.tuple #[]))\/(¬ok/\∃ch,e= .panicked ch/\eR ch))):
 Calls Tryz.prog 30 #[.func (.func 31) #[] #[.pointer (some a),.pointer (some b)]] w fun e w'=>ax Mu w w'/\((ok/\e= .returned (.tuple #[.int .i64 0,.int .i64 0]))\/(¬ok/\∃k z,k≠0/\e= .returned (.tuple #[.int .i64 k,.int .i64 z]))):=by
 have Tu:∀(fn:Fn) (first cap:Array Value) (w:World),(Instr.makeFunc fn first cap).run Tryz.prog w= .ok (.func fn first cap) w:=fun _ _ _ _=>rfl;have Ws:=q_ Ug;clear Ug;have A1:=q_ ((ar.new w 36 #[.int .i64 0]).alloc (.cells #[.int .i64 0] 3));have C1:=q_ (ar.new (w.alloc (.cells #[.int .i64 0] 36)) 3 #[.int .i64 0]);have s0:(w.alloc (.cells #[.int .i64 0] 36)).heap.size=w.heap.size+1:=by simp
 have s1:((w.alloc (.cells #[.int .i64 0] 36)).alloc (.cells #[.int .i64 0] 3)).heap.size=w.heap.size+2:=by simp
 have B1:=q_ (((Below.refl _ w).alloc (n_) (.cells #[.int .i64 0] 36)).alloc (by omega) (.cells #[.int .i64 0] 3));rw[s0] at C1;go_enter_defers Tryz.func30,Tryz.ntmps30;go_wp2_with fail;generalize (w.alloc (.cells #[.int .i64 0] 36)).alloc (.cells #[.int .i64 0] 3)=w1 at A1 C1 s1 B1⊢;refine(Ws.o _ B1.o).mono ?_
 rintro e w2 ⟨ht,⟨aI,rfl⟩|⟨hno,ch,rfl,k,z,hk,rfl⟩⟩
 ·have A2:=q_ (ht.blk A1.o (fun h=>by have:=Ys _ h;omega))
  have C2:=q_ (ht.blk C1.o (fun h=>by have:=Ys _ h;omega));have za:=A2.o.cell;have zc:=C2.o.cell;have fa:=A2.o.frozen;have fc:=C2.o.frozen;have T2:=q_ ((ax.of (Mu:=Mu) B1.o).trans ht (fun _ _ h=>h));clear ht s0 s1;go_wp2;refine leaves_cons (f:=91) (args:=#[.pointer (some ⟨w.heap.size,0,none⟩),.pointer (some ⟨w.heap.size+1,0,none⟩)]) (by simp) (by simp[go_sem]) ?_;refine(En _ _ _).mono ?_
  rintro e u' w3 ⟨rfl,rfl,h3⟩;have A3:=(A2.o.one_set (.int .i64 0)).far (p:=⟨w.heap.size+1,0,none⟩) (show w.heap.size≠w.heap.size+1 by omega) (.int .i64 0);have C3:=(C2.o.far (p:=⟨w.heap.size,0,none⟩) (show w.heap.size+1≠w.heap.size by omega) (.int .i64 0)).one_set (.int .i64 0);have T3:=q_ ((T2.o.grown (r:=w.heap.size) (fun h=>by omega) (aV w2 w.heap.size 0 (.int .i64 0))).grown (r:=w.heap.size+1) (fun h=>by omega) (aV _ (w.heap.size+1) 0 (.int .i64 0)));rw[<-h3] at A3 C3 T3;have z1:w3.cell? ⟨w.heap.size,0,none⟩=some (.int .i64 0):=A3.cell 0;have z2:w3.cell? ⟨w.heap.size+1,0,none⟩=some (.int .i64 0):=C3.cell 0;clear h3 za zc fa fc;simp[Leaves,settle,results,Tryz.results30,go_sem,z1,z2];exact⟨T3.o,aI⟩
 ·have A2:=q_ (ht.blk A1.o (fun h=>by have:=Ys _ h;omega))
  have C2:=q_ (ht.blk C1.o (fun h=>by have:=Ys _ h;omega));have T2:=q_ ((ax.of (Mu:=Mu) B1.o).trans ht (fun _ _ h=>h));clear ht s0 s1;go_wp2;refine leaves_cons (f:=91) (args:=#[.pointer (some ⟨w.heap.size,0,none⟩),.pointer (some ⟨w.heap.size+1,0,none⟩)]) (by simp) (by simp[go_sem]) ?_;refine(Bl _ _ k z _ _ _ A2.o C2.o (by omega)).mono ?_
  rintro e u' w3 ⟨rfl,rfl,Qv,ha3,hb3⟩;have T3:=q_ (T2.o.trans (ml:=fun q=>q=w.heap.size\/q=w.heap.size+1) Qv (fun b hb h=>by omega));have z1:w3.cell? ⟨w.heap.size,0,none⟩=some (.int .i64 k):=ha3.cell 0;have z2:w3.cell? ⟨w.heap.size+1,0,none⟩=some (.int .i64 z):=hb3.cell 0;clear Qv ha3 hb3;simp[Leaves,settle,results,Tryz.results30,go_sem,z1,z2];exact⟨T3.o,.inr ⟨hno,hk⟩⟩
end Go.Proofs.YtpohlhkgbmdieaaGreatDoor
