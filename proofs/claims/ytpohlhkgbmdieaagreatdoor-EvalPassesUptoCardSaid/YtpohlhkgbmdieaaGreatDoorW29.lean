/- Part 29 of the proof. -/
import Derived.Test.YtpohlhkgbmdieaaGreatDoorW28
set_option linter.unusedVariables false
set_option maxRecDepth 1000000
set_option maxHeartbeats 16000000
namespace Go.Proofs.YtpohlhkgbmdieaaGreatDoor
variable{A1:Option Addr}{F:Nat}{Mu S SP:Nat->Prop}{bs:List Nat}{c1 d:Nat}{dests:List ByteArray}{e:Ending}{env cS:List (ByteArray×Int)}{er:Int}{g k lb:Nat}{p:PV}{pb:Nat}{tn:List ByteArray}{u:Nat}{v:Value}{vs:Nat->Value}{w w':World}{xb:Nat}
open Go Go.RowKit Go.BigFrame Go.Maps Go.WideMaps
structure wq(W0:World)(lo:Nat)(L:Nat->Bool)(vs:Nat->Value)(w:World):Prop where
 below:Below W0.heap.size W0 w
 no:∀j,lo<=j->L j=false
theorem wq.start(W0:World)(lo:Nat):wq W0 lo (fun _=>false) vs {W0 with drawn:=W0.drawn+1}:=⟨⟨rfl,rfl,rfl,n_,fun _ _=>rfl⟩,fun _ _=>rfl⟩
theorem wq.pure{W0:World}{lo:Nat}{L:Nat->Bool}(h:wq W0 lo L vs w)(hk:k<lo):wq W0 lo (upd L k) (aS vs k v) w:=⟨h.below,fun j hj=>by
 have:j≠k:=by omega
 simp[upd,this,h.no j hj]⟩
def U4(d:Nat):Prop:=∀(t:M.Tree) (g:Nat) (Mu S N:Nat->Prop) (c:M.Cx) (st:M.St) (p:PV) (bs:List Nat) (F u:Nat) (dests:List ByteArray) (env cS:List (ByteArray×Int)) (A:Option Addr) (cap:Nat) (w:World),
 M.jP d 2 t=true->M.mh t->M.bh dests (aG c.tables) d env t= .ok cS->b9 w g Mu S c st p bs->ar w g 64 (p.cells F u)->F<=2000->u<=F->(∀b,N b->b<w.heap.size/\¬Mu b)->1<=st.scopes.length->st.scopes.length+d<=100->st.routes.length<=u->bX A (M.flat t).length cap->bn ENode w N A (M.flat t).length (M.flat t)->
 Calls Tryz.prog 77 #[.pointer (some ⟨g,0,none⟩),.slice A (M.flat t).length cap] w (cD w g Mu c F (M.cut F u (M.aQ c d st t)))
def MH(d:Nat):Prop:=∀(t:M.Tree) (g:Nat) (Mu S N:Nat->Prop) (c:M.Cx) (st:M.St) (p:PV) (bs:List Nat) (F u:Nat) (dests:List ByteArray) (env cS:List (ByteArray×Int)) (A:Option Addr) (cap:Nat) (w:World),
 M.jP d 1 t=true->M.mh t->M.bh dests (aG c.tables) d env t= .ok cS->b9 w g Mu S c st p bs->ar w g 64 (p.cells F u)->F<=2000->u<=F->(∀b,N b->b<w.heap.size/\¬Mu b)->st.scopes.length+d<=100->st.routes.length<=u->bX A (M.flat t).length cap->bn ENode w N A (M.flat t).length (M.flat t)->
 Calls Tryz.prog 20 #[.pointer (some ⟨g,0,none⟩),.slice A (M.flat t).length cap] w (cD w g Mu c F (M.cut F u (M.aQ c d st t)))
theorem M.JT{α:Type}{U:Nat}{r:Except Int α×Nat}:M.cut F U (r.1,k+r.2)=M.cut F (U+k) r:=by
 unfold M.cut;simp only[Nat.add_assoc]
theorem bm.gives{m:M.dQ}(h:bm w er m e w')(h0:er=0):∃A c,e= .returned (.tuple #[.agg #[.int .u8 (m.d.f.toNat:Int),.int .u8 (m.d.c.toNat:Int),.int .u8 (m.d.r.toNat:Int),.int .u8 (m.d.e.toNat:Int),.int .u8 (m.d.s.toNat:Int),.slice A m.aH.length c],.int .i64 0])/\bX A m.aH.length c/\bn aX w' (New w w') A m.aH.length m.aH/\Below w.heap.size w w':=by
 unfold bm at h;rw[if_neg (by simp[h0])] at h;exact h
theorem bm.gone{m:M.dQ}(h:bm w er m e w')(h0:er≠0):e= .returned (.tuple #[.agg #[.int .u8 0,.int .u8 0,.int .u8 0,.int .u8 0,.int .u8 0,.slice none 0 0],.int .i64 er])/\Below w.heap.size w w':=by
 unfold bm at h;rw[if_pos h0] at h;exact h
theorem qb{q:Nat}(h:ar w g 64 (p.cells F q))(hv:p.v=v)(i:Nat):w.cell? ⟨g,i,none⟩=#[.int .u8 (p.d.f.toNat:Int),.int .u8 (p.d.c.toNat:Int),.int .u8 (p.d.r.toNat:Int),.int .u8 (p.d.e.toNat:Int),.int .u8 (p.d.s.toNat:Int),v,p.tv,.string p.now,.int .i64 (F:Nat),.int .i64 (q:Nat),p.rv,.bool p.stop,p.sv][i]? :=by
 subst hv;exact h.cell i
theorem EE{x:M.Node}(h:M.right x=true)(hx:x.op=2\/x.op=3):∃a b c d:Nat,x.path.aR=a/\x.path.rep=b/\x.path.comp=c/\x.path.sub=d:=by
 unfold M.right at h;simp only[Bool.and_eq_true] at h;have h2:=h.2
 have hp:M.bM x.path=true:=by
  rcases hx with hx|hx
  ·rw[if_pos hx] at h2
   simp only[Bool.and_eq_true] at h2;exact h2.1
  ·rw[if_neg (by omega),if_pos (.inl hx)] at h2
   exact h2
 unfold M.bM at hp;unfold M.CO at hp;simp only[Bool.and_eq_true,Bool.or_eq_true,decide_eq_true_eq] at hp;have h4:0<=x.path.aR/\0<=x.path.rep/\0<=x.path.comp/\0<=x.path.sub:=by omega
 exact⟨x.path.aR.toNat,x.path.rep.toNat,x.path.comp.toNat,x.path.sub.toNat,by omega,by omega,by omega,by omega⟩
theorem Rf{ks:List M.Tree}{t:M.Tree}(h:ks[0]? =some t):M.kid ks 0=t:=by unfold M.kid;rw[List.getD_eq_getElem?_getD,h];rfl
theorem WH{ks:List M.Tree}{t:M.Tree}{i:Nat}(h:ks[i]? =some t):M.kid ks i=t:=by unfold M.kid;rw[List.getD_eq_getElem?_getD,h];rfl
theorem oW{x:M.Node}{ks:List M.Tree}{t0:M.Tree}(hx:x.op=1\/x.op=2\/x.op=4)(ht:ks[0]? =some t0)(h:M.bh dests tn (d+1) env (.mk x ks)= .ok cS):∃k,M.bG tn env d false t0= .ok k:=by
 cases ks with
 |nil=>simp at ht
 |cons t tl=>
  simp at ht;subst ht;rcases hx with hx|hx|hx
  ·rw[Bk hx] at h
   cases hq:M.bG tn env d false t with
   |ok k=>exact⟨k,rfl⟩
   |error e=>rw[hq] at h;cases h
  ·rw[JI hx] at h
   cases hq:M.bG tn env d false t with
   |ok k=>exact⟨k,rfl⟩
   |error e=>rw[hq] at h;cases h
  ·rw[JJ hx] at h
   cases hq:M.bG tn env d false t with
   |ok k=>exact⟨k,rfl⟩
   |error e=>rw[hq] at h;cases h
theorem rI{G:List (ByteArray×Int)->M.Tree->Except Int (List (ByteArray×Int))}:∀{l:List M.Tree} {env cS:List (ByteArray×Int)},M.gH G env l= .ok cS->∀(i:Nat) (t:M.Tree),l[i]? =some t->∃e e',G e t= .ok e'
 |[],_,_,_,i,t,h=>by simp at h
 |y::l,env,cS,h,i,t,ht=>by
  unfold M.gH at h;cases hq:G env y with
  |error e=>rw[hq] at h;cases h
  |ok e1=>
   rw[hq] at h;cases i with
   |zero=>simp at ht;subst ht;exact⟨env,e1,hq⟩
   |succ i=>exact rI h i t (by simpa using ht)
theorem sy{x:M.Node}{ks:List M.Tree}(hx:x.op=1)(h:M.bh dests tn (d+1) env (.mk x ks)= .ok cS)(i:Nat)(t:M.Tree)(ht:ks[i+1]? =some t):∃e e',M.bh dests tn d e t= .ok e':=by
 cases ks with
 |nil=>simp at ht
 |cons t0 tl=>
  rw[Bk hx] at h;cases hq:M.bG tn env d false t0 with
  |error e=>rw[hq] at h;cases h
  |ok k=>
   rw[hq] at h;simp only at h;split at h
   ·exact rI h i t (by simpa using ht)
   ·cases h
theorem U5{c:M.Cx}{st:M.St}{x:M.Node}{ks:List M.Tree}(h:xL w g pb lb xb Mu S SP c st p bs F u x ks A1 c1)(hop:x.op=4)(hlen:0<ks.length)(hT:M.jP (d+1) 2 (.mk x ks)=true)(oX:M.pz ks)(cj:M.bh dests (aG c.tables) (d+1) env (.mk x ks)= .ok cS):
 Calls Tryz.prog 126 #[.pointer (some ⟨pb,0,none⟩),.pointer (some ⟨xb,0,none⟩),.pointer (some ⟨lb,0,none⟩)] w (cD w g Mu c F (M.cut F u (M.iB c d st x ks))):=by
 have hx1:x.op=1\/x.op=2\/x.op=4:=by omega
 have mq:=q_ hop;obtain⟨t0,j5⟩:∃t0,ks[0]? =some t0:=⟨_,e_ hlen⟩
 obtain⟨k0,r5⟩:=oW hx1 j5 cj;have xj:=cF (i:=0) (t:=t0) hT j5;rw[show M.wanted x 0=3 by unfold M.wanted;rw[if_neg (by omega),if_neg (by omega)]] at xj;have Nt:=M.cw (k:=0) oX j5;have WI:=q_ (Rf j5);have Jh:=q_ hx1;have H:=q_ h;have GN:=q_ h.gM.2;have GM:=q_ h.gM.1;obtain⟨a1,y1,u1,rfl,ib,fI,hr1,jf⟩:=h.nu.in1 (k:=0) rfl (by omega);rw[iU] at jf;simp[j5] at fI;subst fI;obtain⟨At,ct,rfl,fE,di⟩:=aU.av (E:=ENode) hr1;have Bo:=q_ (show a1.block<w.heap.size/\a1.block≠g from⟨(h.sp _ ib).1,h.gM.2.2.2.2.2 _ ib⟩);have CA:=q_ jf;have EX:=q_ (fun(W:World) (hW:aW g w W) (hb:ar W g 64 (p.cells F u))=>vY d t0 g Mu S SP c st p bs F u env false k0 At ct W xj Nt r5 (h.pl.only hW) hb h.hF h.uF (fun b hb=>⟨l_ (h.sp b hb).1 hW.size,h.gM.2.2.2.2.2 b hb⟩) fE (hW.nu di (fun b hb=>⟨(h.sp b hb).1,h.gM.2.2.2.2.2 b hb⟩)));have dC:ks.length<=c1:=h.ok.2.1;have Fv:=h.ok.le;have SV:=q_ xj;have HT:=q_ hT;have iX:=q_ oX;have HLK:=q_ cj;clear hr1 di fE jf h xj Nt r5 hT oX cj j5;cases kG:M.cut F u (M.aL c st.m st.scopes d t0) with
 |mk res u2=>
 rw[kG] at EX;rw[<-WI.o] at kG;have FJ:=q_ kG;clear kG;cases res with
 |error er=>
  have gR:=q_ ((M.iZ FJ.o (M.j4 (s:=st) (c:=c) (d:=d) (ks:=ks) Jh.o)).1 er rfl (fun k hk=>M.Br Jh.o k hk));go_enter Tryz.func126,Tryz.ntmps126;go_wp2_with fail;refine ak (KP:=fun ch w5=>dt er= .panicked ch/\aW g w w5/\ar w5 g 64 (p.cells F u2)) 8 [] (wq w 7) (by kernel_rfl) (by kernel_rfl) (wq.start w 7) (fun ch a2 w5 hd hk=>⟨hd,cD.err gR.o (hk.2.1.mu GM.o) hk.1.symm hk.2.2⟩) ?_
  iterate 7
   apply ae rfl
   ·intro L vs wx hI hR hL K hK
    first
    |have c0:=fun i=>((show aW g w wx from ax.of hI.below).blk H.o.FK GN.o.2.1).cell i
     go_simp;exact hK _ (hI.pure (by decide))
    |have c0:=fun i=>((show aW g w wx from ax.of hI.below).blk H.o.Q9 GN.o.2.2.2.1).cell i
     go_simp;exact hK _ (hI.pure (by decide))
    |have c0:=fun i=>((show aW g w wx from ax.of hI.below).blk H.o.SY GN.o.2.2.1).cell i
     go_simp;exact hK _ (hI.pure (by decide))
    |have c0:=((show aW g w wx from ax.of hI.below).cell (p:=a1) Bo.o.1 Bo.o.2).trans CA.o
     go_simp;exact hK _ (hI.pure (by decide))
   intro KK af;go_simp;refine af _ ?_;clear af KK
  refine ae (v:=undef) rfl ?_ ?_
  ·intro L vs wx hI hR hL K hK
   go_simp;exact(EX.o wx (ax.of hI.below) (H.o.gb.below hI.below H.o.gb.lt)).mono fun e w' ⟨h1,h2,h3⟩=> .inr ⟨_,h3,rfl,(show aW g w wx from ax.of hI.below).tr h1,h2⟩
  intro KK af;go_simp;refine af _ ?_;clear af KK;refine aw ?_;intro vs w5 hI;exact absurd (hI.no 7 (by decide)) (by decide)
 |ok v=>
  obtain⟨kk,iR,nv,hle⟩:=(M.iZ FJ.o (M.j4 (s:=st) (c:=c) (d:=d) (ks:=ks) Jh.o)).2 v rfl;have Yh:=q_ (show iF v from j3 d t0 c st v kk SV.o H.o.pl.vals H.o.pl.jU H.o.pl.fT H.o.pl.aH (by rw[<-WI.o];exact iR));have pX:=q_ iR;have SN:=q_ nv;clear iR
  have LAW:=q_ (show M.cut F u (M.iB c d st x ks)=(.ok {st with scopes:=M.jT st.scopes x.text v},u2) by
   have h1:M.iB c d st x ks=(.ok {st with scopes:=M.jT st.scopes x.text v},kk):=by unfold M.iB;rw[if_neg (by omega),if_neg (by omega),if_neg (by omega),if_pos mq.o,pX.o]
   rw[h1,M.bZ hle,nv])
  go_enter Tryz.func126,Tryz.ntmps126;go_wp2_with fail;refine ak (KP:=fun _ _=>False) 8 [] (EI w g p F u u2 7) (by kernel_rfl) (by kernel_rfl) (EI.start H.o.gb) (fun ch a2 w5 hd hk=>hk.elim) ?_
  iterate 7
   apply ae rfl
   ·intro L vs wx hI hR hL K hK
    first
    |have c0:=fun i=>(hI.turns.blk H.o.FK GN.o.2.1).cell i
     go_simp;exact hK _ (hI.pure (by decide))
    |have c0:=fun i=>(hI.turns.blk H.o.Q9 GN.o.2.2.2.1).cell i
     go_simp;exact hK _ (hI.pure (by decide))
    |have c0:=fun i=>(hI.turns.blk H.o.SY GN.o.2.2.1).cell i
     go_simp;exact hK _ (hI.pure (by decide))
    |have c0:=(hI.turns.cell (p:=a1) Bo.o.1 Bo.o.2).trans CA.o
     go_simp;exact hK _ (hI.pure (by decide))
   intro KK af;go_simp;refine af _ ?_;clear af KK
  refine ae (v:=eh v) rfl ?_ ?_
  ·intro L vs wx hI hR hL K hK
   go_simp;exact(EX.o wx hI.turns (by have:=hI.blk;rwa [if_neg (by rw[hL];decide)] at this)).mono fun e w' ⟨h1,h2,h3⟩=>⟨_,h3,hK _ (hI.call h1 h2)⟩
  intro KK af;go_simp;refine af _ ?_;clear af KK;refine aw ?_;intro vs w5 hI;have O5:=q_ hI.turns;have oT:=q_ (show ar w5 g 64 (p.cells F u2) from hI.blk);clear hI;intro KK af;have kg:=fun a w h=>af .normal a w h;simp only[List.drop_succ_cons];unfold eh;go_wp2_with fail;refine(UY g Mu S c st p bs F u2 x.text v w5 H.o.x64.2.2.1 Yh.o H.o.sc oT.o (H.o.pl.only O5.o)).mono ?_
  rintro e w6 ⟨rfl,h1,h2,h3⟩;have T6:=q_ ((O5.o.mu GM.o).trans h1 (fun _ _ h=>h));have P6:=q_ h2;have G6:=q_ h3;clear h1 h2 h3;go_wp2
  (first|(go_end0)|(refine kg _ _ ?_;go_end0));exact cD.ok LAW.o T6.o rfl P6.o G6.o (fun _ _ h=>h)
theorem U6{c:M.Cx}{st:M.St}{x:M.Node}{ks:List M.Tree}(h:xL w g pb lb xb Mu S SP c st p bs F u x ks A1 c1)(hop:x.op=1)(hlen:0<ks.length)(hT:M.jP (d+1) 2 (.mk x ks)=true)(oX:M.pz ks)(cj:M.bh dests (aG c.tables) (d+1) env (.mk x ks)= .ok cS)(hbl:MH d)(hsc:st.scopes.length+d<=100):
 Calls Tryz.prog 119 #[.pointer (some ⟨pb,0,none⟩),.pointer (some ⟨lb,0,none⟩)] w (cD w g Mu c F (M.cut F u (M.iB c d st x ks))):=by
 have hx1:x.op=1\/x.op=2\/x.op=4:=by omega
 have mq:=q_ hop;have Ky:=q_ hbl
 have h2l:2<=ks.length:=by
  have hl:=gT (cU hT).2.1;rw[(cU hT).2.2] at hl;unfold M.cd at hl;rw[if_pos hop] at hl;omega
 clear hbl;obtain⟨t0,j5⟩:∃t0,ks[0]? =some t0:=⟨_,e_ hlen⟩
 obtain⟨k0,r5⟩:=oW hx1 j5 cj;have xj:=cF (i:=0) (t:=t0) hT j5;rw[show M.wanted x 0=3 by unfold M.wanted;rw[if_neg (by omega),if_neg (by omega)]] at xj;have Nt:=M.cw (k:=0) oX j5;have WI:=q_ (Rf j5);have Jh:=q_ hx1;have H:=q_ h;have GN:=q_ h.gM.2;have GM:=q_ h.gM.1;obtain⟨a1,y1,u1,rfl,ib,fI,hr1,jf⟩:=h.nu.in1 (k:=0) rfl (by omega);rw[iU] at jf;simp[j5] at fI;subst fI;obtain⟨At,ct,rfl,fE,di⟩:=aU.av (E:=ENode) hr1;have Bo:=q_ (show a1.block<w.heap.size/\a1.block≠g from⟨(h.sp _ ib).1,h.gM.2.2.2.2.2 _ ib⟩);have CA:=q_ jf;have EX:=q_ (fun(W:World) (hW:aW g w W) (hb:ar W g 64 (p.cells F u))=>vY d t0 g Mu S SP c st p bs F u env false k0 At ct W xj Nt r5 (h.pl.only hW) hb h.hF h.uF (fun b hb=>⟨l_ (h.sp b hb).1 hW.size,h.gM.2.2.2.2.2 b hb⟩) fE (hW.nu di (fun b hb=>⟨(h.sp b hb).1,h.gM.2.2.2.2.2 b hb⟩)));have dC:ks.length<=c1:=h.ok.2.1;have Fv:=h.ok.le;have SV:=q_ xj;have HT:=q_ hT;have iX:=q_ oX;have HLK:=q_ cj;clear hr1 di fE jf h xj Nt r5 hT oX cj j5;cases kG:M.cut F u (M.aL c st.m st.scopes d t0) with
 |mk res u2=>
 rw[kG] at EX;rw[<-WI.o] at kG;have FJ:=q_ kG;clear kG;cases res with
 |error er=>
  have gR:=q_ ((M.iZ FJ.o (M.j4 (s:=st) (c:=c) (d:=d) (ks:=ks) Jh.o)).1 er rfl (fun k hk=>M.Br Jh.o k hk));go_enter Tryz.func119,Tryz.ntmps119;go_wp2_with fail;refine ak (KP:=fun ch w5=>dt er= .panicked ch/\aW g w w5/\ar w5 g 64 (p.cells F u2)) 7 [] (wq w 4) (by kernel_rfl) (by kernel_rfl) (wq.start w 4) (fun ch a2 w5 hd hk=>⟨hd,cD.err gR.o (hk.2.1.mu GM.o) hk.1.symm hk.2.2⟩) ?_
  iterate 4
   apply ae rfl
   ·intro L vs wx hI hR hL K hK
    first
    |have c0:=fun i=>((show aW g w wx from ax.of hI.below).blk H.o.FK GN.o.2.1).cell i
     go_simp;exact hK _ (hI.pure (by decide))
    |have c0:=fun i=>((show aW g w wx from ax.of hI.below).blk H.o.SY GN.o.2.2.1).cell i
     go_simp;exact hK _ (hI.pure (by decide))
    |have c0:=((show aW g w wx from ax.of hI.below).cell (p:=a1) Bo.o.1 Bo.o.2).trans CA.o
     go_simp;exact hK _ (hI.pure (by decide))
   intro KK af;go_simp;refine af _ ?_;clear af KK
  refine ae (v:=undef) rfl ?_ ?_
  ·intro L vs wx hI hR hL K hK
   go_simp;exact(EX.o wx (ax.of hI.below) (H.o.gb.below hI.below H.o.gb.lt)).mono fun e w' ⟨h1,h2,h3⟩=> .inr ⟨_,h3,rfl,(show aW g w wx from ax.of hI.below).tr h1,h2⟩
  intro KK af;go_simp;refine af _ ?_;clear af KK;refine ae (v:=undef) rfl (fun L vs wx hI hR=>absurd (hR 4 (by kernel_rfl)) (by rw[hI.no _ (by decide)];simp)) ?_;intro KK af;refine af _ ?_;clear af KK;refine ae (v:=undef) rfl (fun L vs wx hI hR=>absurd (hR 5 (by kernel_rfl)) (by rw[hI.no _ (by decide)];simp)) ?_;intro KK af;refine af _ ?_;clear af KK;refine aw ?_;intro vs w5 hI;exact absurd (hI.no 4 (by decide)) (by decide)
 |ok v=>
  obtain⟨kk,iR,nv,hle⟩:=(M.iZ FJ.o (M.j4 (s:=st) (c:=c) (d:=d) (ks:=ks) Jh.o)).2 v rfl;have Yh:=q_ (show iF v from j3 d t0 c st v kk SV.o H.o.pl.vals H.o.pl.jU H.o.pl.fT H.o.pl.aH (by rw[<-WI.o];exact iR));have pX:=q_ iR;have SN:=q_ nv;clear iR;go_enter Tryz.func119,Tryz.ntmps119;go_wp2_with fail;refine ak (KP:=fun _ _=>False) 7 [] (EI w g p F u u2 4) (by kernel_rfl) (by kernel_rfl) (EI.start H.o.gb) (fun ch a2 w5 hd hk=>hk.elim) ?_
  iterate 4
   apply ae rfl
   ·intro L vs wx hI hR hL K hK
    first
    |have c0:=fun i=>(hI.turns.blk H.o.FK GN.o.2.1).cell i
     go_simp;exact hK _ (hI.pure (by decide))
    |have c0:=fun i=>(hI.turns.blk H.o.SY GN.o.2.2.1).cell i
     go_simp;exact hK _ (hI.pure (by decide))
    |have c0:=(hI.turns.cell (p:=a1) Bo.o.1 Bo.o.2).trans CA.o
     go_simp;exact hK _ (hI.pure (by decide))
   intro KK af;go_simp;refine af _ ?_;clear af KK
  refine ae (v:=eh v) rfl ?_ ?_
  ·intro L vs wx hI hR hL K hK
   go_simp;exact(EX.o wx hI.turns (by have:=hI.blk;rwa [if_neg (by rw[hL];decide)] at this)).mono fun e w' ⟨h1,h2,h3⟩=>⟨_,h3,hK _ (hI.call h1 h2)⟩
  intro KK af;go_simp;refine af _ ?_;clear af KK;unfold eh
  iterate 2
   apply ae rfl
   ·intro L vs wx hI hR hL K hK
    go_simp;exact hK _ (hI.pure (by decide))
   intro KK af;go_simp;refine af _ ?_;clear af KK
  refine aw ?_;intro vs w5 hI;have O5:=q_ hI.turns;have oT:=q_ (show ar w5 g 64 (p.cells F u2) from hI.blk);clear hI;intro KK af;have kg:=fun a w h=>af .normal a w h;simp only[List.drop_succ_cons,List.drop_nil];cases hq:v.truth with
  |true=>
   obtain⟨tk,dY⟩:∃t,ks[1]? =some t:=⟨_,e_ (by omega)⟩
   obtain⟨e1,e2,hlk⟩:=sy mq.o HLK.o 0 tk dY;have ee:=cF (i:=1) (t:=tk) HT.o dY;rw[vR mq.o] at ee;have Rg:=M.cw (k:=1) iX.o dY;have MG:=q_ (WH dY);have P5:=q_ (H.o.pl.only O5.o);have PL5:=q_ (O5.o.nu H.o.nu (fun b hb=>⟨(H.o.sp b hb).1,H.o.gM.2.2.2.2.2 b hb⟩));have Yz:=q_ (fun b (hb:SP b)=>And.intro (l_ (H.o.sp b hb).1 O5.o.size) (H.o.sp b hb).2);obtain⟨b1,y1,u1,xH,nQ,eI,hr2,nU⟩:=PL5.o.in1 (k:=1) rfl (by omega);injection xH with xH;subst xH;simp[dY] at eI;subst eI;obtain⟨NF,NG,rfl,ln,jS⟩:=aU.av (E:=ENode) hr2;have WJ:=q_ (O5.o.blk H.o.SY GN.o.2.2.1);have NH:=q_ (O5.o.blk H.o.FK GN.o.2.1);have CB:=q_ (show w5.cell? ⟨a1.block,a1.off+1,none⟩=some (.slice NF (M.flat tk).length NG) by rwa [show a1.add 1=⟨a1.block,a1.off+1,none⟩ by rw[Addr.add,if_neg (by omega)]] at nU)
   have KB:=q_ (fun(W:World) (hW:Below w5.heap.size w5 W)=>Ky.o tk g Mu S SP c st p bs F u2 dests e1 e2 NF NG W ee Rg hlk (P5.o.below hW) (oT.o.below hW oT.o.lt) H.o.hF (by have:=SN.o;omega) (fun b hb=>⟨l_ (Yz.o b hb).1 hW.size,(Yz.o b hb).2⟩) hsc (t_ H.o.ro (by have:=SN.o;omega)) ln (jS.below hW (fun b hb=>(Yz.o b hb).1)))
   have oU:=q_ (show M.cut F u (M.iB c d st x ks)=M.cut F u2 (M.aQ c d st tk) by
    have h1:M.iB c d st x ks=((M.aQ c d st tk).1,kk+(M.aQ c d st tk).2):=by
     unfold M.iB;rw[if_pos mq.o,pX.o];simp only;rw[if_pos hq];rw[MG.o]
    rw[h1,SN.o];exact M.JT)
   have YA:=q_ (show a1.block<w5.heap.size from l_ Bo.o.1 O5.o.size);clear hr2 jS ln nU dY ee Rg hlk;have ZP:((1:Int)<(ks.length:Int))=True:=eq_true (by omega);go_wp2_with fail;refine ak (KP:=fun _ _=>False) 4 [] (fL w5) (by kernel_rfl) (by kernel_rfl) (fL.start w5) (fun ch a2 w5 hd hk=>hk.elim) ?_
   iterate 4
    apply ae rfl
    ·intro L vs wx hI hR hL K hK
     first
     |have c0:=fun i=>(NH.o.below hI NH.o.lt).cell i
      go_simp;exact hK _ hI
     |have c0:=fun i=>(WJ.o.below hI WJ.o.lt).cell i
      go_simp;exact hK _ hI
     |have c0:=(hI.cell (p:=⟨a1.block,_,none⟩) YA.o).trans CB.o
      go_simp;exact hK _ hI
    intro KK af;go_simp;refine af _ ?_;clear af KK
   refine aw ?_;intro vs6 w6 Ue;have jL:Below w5.heap.size w5 w6:=Ue;clear Ue;intro KK6 Rh;have YB:=fun a w h=>Rh .normal a w h;simp only[List.drop_succ_cons,List.drop_zero];have XH:=q_ (KB.o w6 jL);have T6:=q_ (show ax Mu w w6 from(O5.o.mu GM.o).on jL);generalize M.cut F u2 (M.aQ c d st tk)=r at XH oU;clear jL;go_wp2_with fail;refine XH.o.mono ?_;rintro e w7 hst;obtain⟨r,u3⟩:=r;cases r with
   |error er=>
    obtain⟨h1,rfl,p',h2⟩:=hst.kJ;have T7:=q_ (T6.o.trans h1 (fun _ _ h=>h));have G7:=q_ h2;clear hst h1 h2;unfold dt;go_wp2
    first
     |exact⟨rfl,cD.err oU.o T7.o rfl G7.o⟩
     |(refine Rh (.panic _) _ _ ?_;exact⟨rfl,cD.err oU.o T7.o rfl G7.o⟩)
   |ok JR=>
    obtain⟨h1,rfl,ml,S',p',JS,h2,h3,h4⟩:=hst.oV;have T7:=q_ (T6.o.trans h1 (fun _ _ h=>h));have P7:=q_ h2;have G7:=q_ h3;have M7:=q_ (show∀b,b<w.heap.size->ml b->Mu b from fun b hb hm=>h4 b (l_ hb T6.o.size) hm);clear hst h1 h2 h3 h4;go_wp2
    (first|(go_end0)|(refine YB _ _ ?_;go_end0));exact cD.ok oU.o T7.o rfl P7.o G7.o M7.o
  |false=>
   by_cases h3l:2<ks.length
   ·have q3:decide (2<(ks.length:Int))=true:=by simp;omega
    obtain⟨tk,dY⟩:∃t,ks[2]? =some t:=⟨_,e_ (by omega)⟩
    obtain⟨e1,e2,hlk⟩:=sy mq.o HLK.o 1 tk dY;have ee:=cF (i:=2) (t:=tk) HT.o dY;rw[vR mq.o] at ee;have Rg:=M.cw (k:=2) iX.o dY;have MG:=q_ (WH dY);have P5:=q_ (H.o.pl.only O5.o);have PL5:=q_ (O5.o.nu H.o.nu (fun b hb=>⟨(H.o.sp b hb).1,H.o.gM.2.2.2.2.2 b hb⟩));have Yz:=q_ (fun b (hb:SP b)=>And.intro (l_ (H.o.sp b hb).1 O5.o.size) (H.o.sp b hb).2);obtain⟨b1,y1,u1,xH,nQ,eI,hr2,nU⟩:=PL5.o.in1 (k:=2) rfl (by omega);injection xH with xH;subst xH;simp[dY] at eI;subst eI;obtain⟨NF,NG,rfl,ln,jS⟩:=aU.av (E:=ENode) hr2;have WJ:=q_ (O5.o.blk H.o.SY GN.o.2.2.1);have NH:=q_ (O5.o.blk H.o.FK GN.o.2.1);have CB:=q_ (show w5.cell? ⟨a1.block,a1.off+2,none⟩=some (.slice NF (M.flat tk).length NG) by rwa [show a1.add 2=⟨a1.block,a1.off+2,none⟩ by rw[Addr.add,if_neg (by omega)]] at nU)
    have KB:=q_ (fun(W:World) (hW:Below w5.heap.size w5 W)=>Ky.o tk g Mu S SP c st p bs F u2 dests e1 e2 NF NG W ee Rg hlk (P5.o.below hW) (oT.o.below hW oT.o.lt) H.o.hF (by have:=SN.o;omega) (fun b hb=>⟨l_ (Yz.o b hb).1 hW.size,(Yz.o b hb).2⟩) hsc (t_ H.o.ro (by have:=SN.o;omega)) ln (jS.below hW (fun b hb=>(Yz.o b hb).1)))
    have oU:=q_ (show M.cut F u (M.iB c d st x ks)=M.cut F u2 (M.aQ c d st tk) by
     have h1:M.iB c d st x ks=((M.aQ c d st tk).1,kk+(M.aQ c d st tk).2):=by
      unfold M.iB;rw[if_pos mq.o,pX.o];simp only;rw[if_neg (by rw[hq];decide),if_pos h3l];rw[MG.o]
     rw[h1,SN.o];exact M.JT)
    have YA:=q_ (show a1.block<w5.heap.size from l_ Bo.o.1 O5.o.size);clear hr2 jS ln nU dY ee Rg hlk;have z5:=WJ.o.cell;have gi2:((2:Int)<(ks.length:Int))=True:=eq_true (by omega);go_wp2_with fail;refine ak (KP:=fun _ _=>False) 4 [] (fL w5) (by kernel_rfl) (by kernel_rfl) (fL.start w5) (fun ch a2 w5 hd hk=>hk.elim) ?_
    iterate 4
     apply ae rfl
     ·intro L vs wx hI hR hL K hK
      first
      |have c0:=fun i=>(NH.o.below hI NH.o.lt).cell i
       go_simp;exact hK _ hI
      |have c0:=fun i=>(WJ.o.below hI WJ.o.lt).cell i
       go_simp;exact hK _ hI
      |have c0:=(hI.cell (p:=⟨a1.block,_,none⟩) YA.o).trans CB.o
       go_simp;exact hK _ hI
     intro KK af;go_simp;refine af _ ?_;clear af KK
    refine aw ?_;intro vs6 w6 Ue;have jL:Below w5.heap.size w5 w6:=Ue;clear Ue;intro KK6 Rh;have YB:=fun a w h=>Rh .normal a w h;simp only[List.drop_succ_cons,List.drop_zero];have XH:=q_ (KB.o w6 jL);have T6:=q_ (show ax Mu w w6 from(O5.o.mu GM.o).on jL);generalize M.cut F u2 (M.aQ c d st tk)=r at XH oU;clear jL;go_wp2_with fail;refine XH.o.mono ?_;rintro e w7 hst;obtain⟨r,u3⟩:=r;cases r with
    |error er=>
     obtain⟨h1,rfl,p',h2⟩:=hst.kJ;have T7:=q_ (T6.o.trans h1 (fun _ _ h=>h));have G7:=q_ h2;clear hst h1 h2;unfold dt;go_wp2
     first
      |exact⟨rfl,cD.err oU.o T7.o rfl G7.o⟩
      |(refine Rh (.panic _) _ _ ?_;exact⟨rfl,cD.err oU.o T7.o rfl G7.o⟩)
    |ok JR=>
     obtain⟨h1,rfl,ml,S',p',JS,h2,h3,h4⟩:=hst.oV;have T7:=q_ (T6.o.trans h1 (fun _ _ h=>h));have P7:=q_ h2;have G7:=q_ h3;have M7:=q_ (show∀b,b<w.heap.size->ml b->Mu b from fun b hb hm=>h4 b (l_ hb T6.o.size) hm);clear hst h1 h2 h3 h4;go_wp2
     (first|(go_end0)|(refine YB _ _ ?_;go_end0));exact cD.ok oU.o T7.o rfl P7.o G7.o M7.o
   ·have q3:decide (2<(ks.length:Int))=false:=by simp;omega
    have LAW:=q_ (show M.cut F u (M.iB c d st x ks)=(.ok st,u2) by
     have h1:M.iB c d st x ks=(.ok st,kk):=by
      unfold M.iB;rw[if_pos mq.o,pX.o];simp only;rw[if_neg (by rw[hq];decide),if_neg h3l]
     rw[h1,M.bZ hle,nv])
    have WJ:=q_ (O5.o.blk H.o.SY GN.o.2.2.1);have z5:=WJ.o.cell;have P5:=q_ (H.o.pl.only O5.o);go_wp2
    (first|(go_end0)|(refine kg _ _ ?_;go_end0));exact cD.ok LAW.o (O5.o.mu GM.o) rfl P5.o oT.o (fun _ _ h=>h)
theorem U7{c:M.Cx}{st:M.St}{x:M.Node}{ks:List M.Tree}(h:xL w g pb lb xb Mu S SP c st p bs F u x ks A1 c1)(hop:x.op=2)(hlen:0<ks.length)(hT:M.jP (d+1) 2 (.mk x ks)=true)(oX:M.pz ks)(cj:M.bh dests (aG c.tables) (d+1) env (.mk x ks)= .ok cS):
 Calls Tryz.prog 121 #[.pointer (some ⟨pb,0,none⟩),.pointer (some ⟨xb,0,none⟩),.pointer (some ⟨lb,0,none⟩)] w (cD w g Mu c F (M.cut F u (M.iB c d st x ks))):=by
 have hx1:x.op=1\/x.op=2\/x.op=4:=by omega
 have mq:=q_ hop;obtain⟨fn,rn,cn,sn,q1,q2,q3,q4⟩:=EE (cU hT).2.1 (.inl hop);have YC:=q_ (show(⟨x.path.aN,x.path.aP,(fn:Int),(rn:Int),(cn:Int),(sn:Int)⟩:M.Path)=x.path by rw[<-q1,<-q2,<-q3,<-q4]);clear q1 q2 q3 q4;obtain⟨AM,nm,hv,Es,Wt⟩:=h.pl.msg;have HV:=q_ hv;have QV:=q_ Es;have Wu:=q_ Wt;have HS:=q_ (fun b (hb:S b)=>And.intro (h.pl.far b hb).1 (h.pl.gne b hb));have Ut:=q_ (show(⟨p.d,st.m.aH⟩:M.dQ)=st.m by rw[h.pl.d]);clear hv Es Wt;obtain⟨t0,j5⟩:∃t0,ks[0]? =some t0:=⟨_,e_ hlen⟩
 obtain⟨k0,r5⟩:=oW hx1 j5 cj;have xj:=cF (i:=0) (t:=t0) hT j5;rw[show M.wanted x 0=3 by unfold M.wanted;rw[if_neg (by omega),if_neg (by omega)]] at xj;have Nt:=M.cw (k:=0) oX j5;have WI:=q_ (Rf j5);have Jh:=q_ hx1;have H:=q_ h;have GN:=q_ h.gM.2;have GM:=q_ h.gM.1;obtain⟨a1,y1,u1,rfl,ib,fI,hr1,jf⟩:=h.nu.in1 (k:=0) rfl (by omega);rw[iU] at jf;simp[j5] at fI;subst fI;obtain⟨At,ct,rfl,fE,di⟩:=aU.av (E:=ENode) hr1;have Bo:=q_ (show a1.block<w.heap.size/\a1.block≠g from⟨(h.sp _ ib).1,h.gM.2.2.2.2.2 _ ib⟩);have CA:=q_ jf;have EX:=q_ (fun(W:World) (hW:aW g w W) (hb:ar W g 64 (p.cells F u))=>vY d t0 g Mu S SP c st p bs F u env false k0 At ct W xj Nt r5 (h.pl.only hW) hb h.hF h.uF (fun b hb=>⟨l_ (h.sp b hb).1 hW.size,h.gM.2.2.2.2.2 b hb⟩) fE (hW.nu di (fun b hb=>⟨(h.sp b hb).1,h.gM.2.2.2.2.2 b hb⟩)));have dC:ks.length<=c1:=h.ok.2.1;have Fv:=h.ok.le;have SV:=q_ xj;have HT:=q_ hT;have iX:=q_ oX;have HLK:=q_ cj;clear hr1 di fE jf h xj Nt r5 hT oX cj j5;cases kG:M.cut F u (M.aL c st.m st.scopes d t0) with
 |mk res u2=>
 rw[kG] at EX;rw[<-WI.o] at kG;have FJ:=q_ kG;clear kG;cases res with
 |error er=>
  have gR:=q_ ((M.iZ FJ.o (M.j4 (s:=st) (c:=c) (d:=d) (ks:=ks) Jh.o)).1 er rfl (fun k hk=>M.Br Jh.o k hk));go_enter Tryz.func121,Tryz.ntmps121;go_wp2_with fail;refine ak (KP:=fun ch w5=>dt er= .panicked ch/\aW g w w5/\ar w5 g 64 (p.cells F u2)) 16 [] (wq w 11) (by kernel_rfl) (by kernel_rfl) (wq.start w 11) (fun ch a2 w5 hd hk=>⟨hd,cD.err gR.o (hk.2.1.mu GM.o) hk.1.symm hk.2.2⟩) ?_
  iterate 11
   apply ae rfl
   ·intro L vs wx hI hR hL K hK
    first
    |have c0:=fun i=>((show aW g w wx from ax.of hI.below).blk H.o.FK GN.o.2.1).cell i
     go_simp;exact hK _ (hI.pure (by decide))
    |have c0:=fun i=>(qb (H.o.gb.below hI.below H.o.gb.lt) HV.o i)
     go_simp;exact hK _ (hI.pure (by decide))
    |have c0:=fun i=>((show aW g w wx from ax.of hI.below).blk H.o.Q9 GN.o.2.2.2.1).cell i
     go_simp;exact hK _ (hI.pure (by decide))
    |have c0:=fun i=>((show aW g w wx from ax.of hI.below).blk H.o.SY GN.o.2.2.1).cell i
     go_simp;exact hK _ (hI.pure (by decide))
    |have c0:=((show aW g w wx from ax.of hI.below).cell (p:=a1) Bo.o.1 Bo.o.2).trans CA.o
     go_simp;exact hK _ (hI.pure (by decide))
   intro KK af;go_simp;refine af _ ?_;clear af KK
  refine ae (v:=undef) rfl ?_ ?_
  ·intro L vs wx hI hR hL K hK
   go_simp;exact(EX.o wx (ax.of hI.below) (H.o.gb.below hI.below H.o.gb.lt)).mono fun e w' ⟨h1,h2,h3⟩=> .inr ⟨_,h3,rfl,(show aW g w wx from ax.of hI.below).tr h1,h2⟩
  intro KK af;go_simp;refine af _ ?_;clear af KK;refine ae (v:=undef) rfl (fun L vs wx hI hR=>absurd (hR 11 (by kernel_rfl)) (by rw[hI.no _ (by decide)];simp)) ?_;intro KK af;refine af _ ?_;clear af KK;refine ae (v:=undef) rfl (fun L vs wx hI hR=>absurd (hR 12 (by kernel_rfl)) (by rw[hI.no _ (by decide)];simp)) ?_;intro KK af;refine af _ ?_;clear af KK;refine ae (v:=undef) rfl (fun L vs wx hI hR=>absurd (hR 13 (by kernel_rfl)) (by rw[hI.no _ (by decide)];simp)) ?_;intro KK af;refine af _ ?_;clear af KK;refine ae (v:=undef) rfl (fun L vs wx hI hR=>absurd (hR 13 (by kernel_rfl)) (by rw[hI.no _ (by decide)];simp)) ?_;intro KK af;refine af _ ?_;clear af KK;refine aw ?_;intro vs w5 hI;exact absurd (hI.no 11 (by decide)) (by decide)
 |ok v=>
  obtain⟨kk,iR,nv,hle⟩:=(M.iZ FJ.o (M.j4 (s:=st) (c:=c) (d:=d) (ks:=ks) Jh.o)).2 v rfl;have Yh:=q_ (show iF v from j3 d t0 c st v kk SV.o H.o.pl.vals H.o.pl.jU H.o.pl.fT H.o.pl.aH (by rw[<-WI.o];exact iR));have pX:=q_ iR;have SN:=q_ nv;clear iR
  have KS:=q_ (fun(W:World) (hW:aW g w W)=>show Calls Tryz.prog 123 #[.agg #[.int .u8 (p.d.f.toNat:Int),.int .u8 (p.d.c.toNat:Int),.int .u8 (p.d.r.toNat:Int),.int .u8 (p.d.e.toNat:Int),.int .u8 (p.d.s.toNat:Int),.slice AM st.m.aH.length nm],.agg #[.string x.path.aN,.int .i64 x.path.aP,.int .i64 x.path.aR,.int .i64 x.path.rep,.int .i64 x.path.comp,.int .i64 x.path.sub],.string v.text] W (bm W (M.lx st.m x.path) (M.uL st.m x.path v.text)) from by
   have h64:=H.o.x64.2.2.2.2;have:=Eb p.d AM nm st.m.aH x.path.aN x.path.aP fn rn cn sn v.text Yh.o.text S W (fun b hb=>l_ (HS.o b hb).1 hW.size) QV.o (hW.nu Wu.o HS.o) (by rw[YC.o];exact h64);rw[Ut.o,YC.o] at this
   have hpv:(.agg #[.string x.path.aN,.int .i64 x.path.aP,.int .i64 (fn:Nat),.int .i64 (rn:Nat),.int .i64 (cn:Nat),.int .i64 (sn:Nat)]:Value)= .agg #[.string x.path.aN,.int .i64 x.path.aP,.int .i64 x.path.aR,.int .i64 x.path.rep,.int .i64 x.path.comp,.int .i64 x.path.sub]:=by
    have h:=YC.o;rw[<-h]
   rw[<-hpv];exact this)
  go_enter Tryz.func121,Tryz.ntmps121;go_wp2_with fail;by_cases hz:M.lx st.m x.path=0
  ·have HZ:=q_ hz
   have LAW:=q_ (show M.cut F u (M.iB c d st x ks)=(.ok {st with m:=M.uL st.m x.path v.text},u2) by
    have h1:M.iB c d st x ks=(.ok {st with m:=M.uL st.m x.path v.text},kk):=by unfold M.iB;rw[if_neg (by omega),if_pos mq.o,pX.o];simp only;rw[if_neg (by rw[hz];simp)]
    rw[h1,M.bZ hle,nv])
   clear hz;refine ak (KP:=fun _ _=>False) 16 [13,14,15] (CI w g p F u u2 11 13 (M.uL st.m x.path v.text)) (by kernel_rfl) (by kernel_rfl) (CI.start H.o.gb) (fun ch a2 w5 hd hk=>hk.elim) ?_
   iterate 11
    apply ae rfl
    ·intro L vs wx hI hR hL K hK
     first
     |have c0:=fun i=>(hI.ei.turns.blk H.o.FK GN.o.2.1).cell i
      go_simp;exact hK _ (hI.pure (by decide) (by decide) (by decide) (by decide))
     |have c0:=fun i=>(qb hI.ei.blk HV.o i)
      go_simp;exact hK _ (hI.pure (by decide) (by decide) (by decide) (by decide))
     |have c0:=fun i=>(hI.ei.turns.blk H.o.Q9 GN.o.2.2.2.1).cell i
      go_simp;exact hK _ (hI.pure (by decide) (by decide) (by decide) (by decide))
     |have c0:=fun i=>(hI.ei.turns.blk H.o.SY GN.o.2.2.1).cell i
      go_simp;exact hK _ (hI.pure (by decide) (by decide) (by decide) (by decide))
     |have c0:=(hI.ei.turns.cell (p:=a1) Bo.o.1 Bo.o.2).trans CA.o
      go_simp;exact hK _ (hI.pure (by decide) (by decide) (by decide) (by decide))
    intro KK af;go_simp;refine af _ ?_;clear af KK
   refine ae (v:=eh v) rfl ?_ ?_
   ·intro L vs wx hI hR hL K hK
    go_simp;exact(EX.o wx hI.ei.turns (by have:=hI.ei.blk;rwa [if_neg (by rw[hL];decide)] at this)).mono fun e w' ⟨h1,h2,h3⟩=>⟨_,h3,hK _ (hI.call GN.o.1 (by decide) (by decide) (by decide) h1 h2)⟩
   intro KK af;go_simp;refine af _ ?_;clear af KK;unfold eh;apply ae rfl
   ·intro L vs wx hI hR hL K hK
    go_simp;exact hK _ (hI.pure (by decide) (by decide) (by decide) (by decide))
   intro KK af;go_simp;refine af _ ?_;clear af KK;refine bc rfl ?_ ?_
   ·intro L vs wx hI hR hL K hK
    have hLc:=hL;go_simp;exact(KS.o wx hI.ei.turns).mono fun e w' hc=>match hc.gives HZ.o with|⟨A,n,h1,h2,h3,h4⟩=>⟨_,h1,hK _ _ (hI.give hLc (by decide) h4 h2 h3)⟩
   intro KK af;go_simp;refine af _ ?_;clear af KK;refine bc rfl ?_ ?_
   ·intro L vs wx hI hR hL K hK
    obtain⟨A,n,e1,e2,e3,e4,e5⟩:=hI.one (hR 13 (by kernel_rfl));go_simp;exact hK _ _ (hI.WE (hR 13 (by kernel_rfl)) e1 (by decide))
   intro KK af;go_simp;refine af _ ?_;clear af KK;refine bc rfl ?_ ?_
   ·intro L vs wx hI hR hL K hK
    obtain⟨A,n,e1,e2,e3,e4,e5⟩:=hI.one (hR 13 (by kernel_rfl));go_simp;exact hK _ _ (hI.WG (hR 13 (by kernel_rfl)) (by decide))
   intro KK af;go_simp;refine af _ ?_;clear af KK;refine aw ?_;intro vs w5 hI;obtain⟨A5,n5,-,Ri,Wi,hv1,hv2⟩:=hI.one (by decide);have O5:=q_ hI.ei.turns;have oT:=q_ (show ar w5 g 64 (p.cells F u2) from hI.ei.blk);have L5:=q_ Wi;have OK5:=q_ Ri;have e1:=hv1 (by decide);have e2:=hv2 (by decide);rw[e1,e2];clear hI Ri Wi hv1 hv2 e1 e2;intro KK af;have kg:=fun a w h=>af .normal a w h;simp only[List.drop_succ_cons];go_wp2_with fail;refine(wj g Mu S c st p bs F u2 (M.uL st.m x.path v.text) A5 n5 (New w w5) w5 OK5.o L5.o (fun b hb=>⟨hb.2,fun hm=>by have:=H.o.pl.mu b hm;have:=hb.1;omega⟩) oT.o (H.o.pl.only O5.o)).mono ?_
   rintro e w6 ⟨rfl,h1,h2,h3⟩;have T6:=q_ ((O5.o.mu GM.o).trans (h1.mu GM.o) (fun _ _ h=>h));have P6:=q_ h2;have G6:=q_ h3;clear h1 h2 h3;go_wp2
   (first|(go_end0)|(refine kg _ _ ?_;go_end0));exact cD.ok LAW.o T6.o rfl P6.o G6.o (fun _ _ h=>h)
  ·have YD:=q_ hz
   have LAW:=q_ (show M.cut F u (M.iB c d st x ks)=(.error (M.lx st.m x.path),u2) by
    have h1:M.iB c d st x ks=(.error (M.lx st.m x.path),kk):=by unfold M.iB;rw[if_neg (by omega),if_pos mq.o,pX.o];simp only;rw[if_pos hz]
    rw[h1,M.bZ hle,nv])
   clear hz;refine ak (KP:=fun _ _=>False) 16 [] (EI w g p F u u2 11) (by kernel_rfl) (by kernel_rfl) (EI.start H.o.gb) (fun ch a2 w5 hd hk=>hk.elim) ?_
   iterate 11
    apply ae rfl
    ·intro L vs wx hI hR hL K hK
     first
     |have c0:=fun i=>(hI.turns.blk H.o.FK GN.o.2.1).cell i
      go_simp;exact hK _ (hI.pure (by decide))
     |have c0:=fun i=>(qb hI.blk HV.o i)
      go_simp;exact hK _ (hI.pure (by decide))
     |have c0:=fun i=>(hI.turns.blk H.o.Q9 GN.o.2.2.2.1).cell i
      go_simp;exact hK _ (hI.pure (by decide))
     |have c0:=fun i=>(hI.turns.blk H.o.SY GN.o.2.2.1).cell i
      go_simp;exact hK _ (hI.pure (by decide))
     |have c0:=(hI.turns.cell (p:=a1) Bo.o.1 Bo.o.2).trans CA.o
      go_simp;exact hK _ (hI.pure (by decide))
    intro KK af;go_simp;refine af _ ?_;clear af KK
   refine ae (v:=eh v) rfl ?_ ?_
   ·intro L vs wx hI hR hL K hK
    go_simp;exact(EX.o wx hI.turns (by have:=hI.blk;rwa [if_neg (by rw[hL];decide)] at this)).mono fun e w' ⟨h1,h2,h3⟩=>⟨_,h3,hK _ (hI.call h1 h2)⟩
   intro KK af;go_simp;refine af _ ?_;clear af KK;unfold eh
   iterate 4
    apply ae rfl
    ·intro L vs wx hI hR hL K hK
     first
     |go_simp
      exact hK _ (hI.pure (by decide))
     |go_simp
      exact(KS.o wx hI.turns).mono fun e w' hc=>⟨_,(hc.gone YD.o).1,hK _ (hI.on (by decide) (hc.gone YD.o).2)⟩
    intro KK af;go_simp;refine af _ ?_;clear af KK
   refine aw ?_;intro vs w5 hI;have O5:=q_ hI.turns;have oT:=q_ (show ar w5 g 64 (p.cells F u2) from hI.blk);clear hI;intro KK af;have kg:=fun a w h=>af .normal a w h;simp only[List.drop_succ_cons];go_wp2_with fail;refine(y7 g _ w5 YD.o).mono ?_
   rintro e w6 ⟨rfl,hb⟩;have T6:=q_ ((O5.o.mu GM.o).on hb);have G6:=q_ (oT.o.below hb oT.o.lt);clear hb;unfold dt;go_wp2
   first
    |exact⟨rfl,cD.err LAW.o T6.o rfl G6.o⟩
    |(refine af (.panic _) _ _ ?_;exact⟨rfl,cD.err LAW.o T6.o rfl G6.o⟩)
theorem U8{c:M.Cx}{st:M.St}{x:M.Node}{ks:List M.Tree}(h:xL w g pb lb xb Mu S SP c st p bs F u x ks A1 c1)(hop:x.op=3)(hT:M.jP (d+1) 2 (.mk x ks)=true):
 Calls Tryz.prog 124 #[.pointer (some ⟨pb,0,none⟩),.pointer (some ⟨xb,0,none⟩)] w (cD w g Mu c F (M.cut F u (M.iB c d st x ks))):=by
 obtain⟨fn,rn,cn,sn,q1,q2,q3,q4⟩:=EE (cU hT).2.1 (.inr hop);have YC:=q_ (show(⟨x.path.aN,x.path.aP,(fn:Int),(rn:Int),(cn:Int),(sn:Int)⟩:M.Path)=x.path by rw[<-q1,<-q2,<-q3,<-q4]);have mq:=q_ hop;clear q1 q2 q3 q4;obtain⟨AM,nm,hv,Es,Wt⟩:=h.pl.msg;have HV:=q_ hv;have QV:=q_ Es;have Wu:=q_ Wt;have HS:=q_ (fun b (hb:S b)=>And.intro (h.pl.far b hb).1 (h.pl.gne b hb));have Ut:=q_ (show(⟨p.d,st.m.aH⟩:M.dQ)=st.m by rw[h.pl.d]);clear hv Es Wt;have H:=q_ h;have GN:=q_ h.gM.2;have GM:=q_ h.gM.1;clear h hT
 have KS:=q_ (fun(W:World) (hW:aW g w W)=>show Calls Tryz.prog 125 #[.agg #[.int .u8 (p.d.f.toNat:Int),.int .u8 (p.d.c.toNat:Int),.int .u8 (p.d.r.toNat:Int),.int .u8 (p.d.e.toNat:Int),.int .u8 (p.d.s.toNat:Int),.slice AM st.m.aH.length nm],.agg #[.string x.path.aN,.int .i64 x.path.aP,.int .i64 x.path.aR,.int .i64 x.path.rep,.int .i64 x.path.comp,.int .i64 x.path.sub]] W (bm W (M.asked st.m x.path true) (M.qR st.m x.path)) from by
  have h64:=H.o.x64.2.2.2.2;have:=ED p.d AM nm st.m.aH x.path.aN x.path.aP fn rn cn sn S W (fun b hb=>l_ (HS.o b hb).1 hW.size) QV.o (hW.nu Wu.o HS.o) (by rw[YC.o];exact h64);rw[Ut.o,YC.o] at this
  have hpv:(.agg #[.string x.path.aN,.int .i64 x.path.aP,.int .i64 (fn:Nat),.int .i64 (rn:Nat),.int .i64 (cn:Nat),.int .i64 (sn:Nat)]:Value)= .agg #[.string x.path.aN,.int .i64 x.path.aP,.int .i64 x.path.aR,.int .i64 x.path.rep,.int .i64 x.path.comp,.int .i64 x.path.sub]:=by
   have h:=YC.o;rw[<-h]
  rw[<-hpv];exact this)
 go_enter Tryz.func124,Tryz.ntmps124;go_wp2_with fail;by_cases hz:M.asked st.m x.path true=0
 ·have HZ:=q_ hz
  have LAW:=q_ (show M.cut F u (M.iB c d st x ks)=(.ok {st with m:=M.qR st.m x.path},u) by
   have h1:M.iB c d st x ks=(.ok {st with m:=M.qR st.m x.path},0):=by unfold M.iB;rw[if_neg (by omega),if_neg (by omega),if_pos mq.o,if_neg (by rw[hz];simp)]
   rw[h1,M.bZ (by show u+0<=F;have:=H.o.uF;omega)];rfl)
  clear hz;refine ak (KP:=fun _ _=>False) 10 [7,8,9] (CI w g p F u u 100 7 (M.qR st.m x.path)) (by kernel_rfl) (by kernel_rfl) (CI.start H.o.gb) (fun ch a2 w5 hd hk=>hk.elim) ?_
  iterate 7
   apply ae rfl
   ·intro L vs wx hI hR hL K hK
    first
    |have c0:=fun i=>(hI.ei.turns.blk H.o.FK GN.o.2.1).cell i
     go_simp;exact hK _ (hI.pure (by decide) (by decide) (by decide) (by decide))
    |have c0:=fun i=>(qb hI.ei.blk HV.o i)
     go_simp;exact hK _ (hI.pure (by decide) (by decide) (by decide) (by decide))
    |have c0:=fun i=>(hI.ei.turns.blk H.o.Q9 GN.o.2.2.2.1).cell i
     go_simp;exact hK _ (hI.pure (by decide) (by decide) (by decide) (by decide))
   intro KK af;go_simp;refine af _ ?_;clear af KK
  refine bc rfl ?_ ?_
  ·intro L vs wx hI hR hL K hK
   have hLc:=hL;go_simp;exact(KS.o wx hI.ei.turns).mono fun e w' hc=>match hc.gives HZ.o with|⟨A,n,h1,h2,h3,h4⟩=>⟨_,h1,hK _ _ (hI.give hLc (by decide) h4 h2 h3)⟩
  intro KK af;go_simp;refine af _ ?_;clear af KK;refine bc rfl ?_ ?_
  ·intro L vs wx hI hR hL K hK
   obtain⟨A,n,e1,e2,e3,e4,e5⟩:=hI.one (hR 7 (by kernel_rfl));go_simp;exact hK _ _ (hI.WE (hR 7 (by kernel_rfl)) e1 (by decide))
  intro KK af;go_simp;refine af _ ?_;clear af KK;refine bc rfl ?_ ?_
  ·intro L vs wx hI hR hL K hK
   obtain⟨A,n,e1,e2,e3,e4,e5⟩:=hI.one (hR 7 (by kernel_rfl));go_simp;exact hK _ _ (hI.WG (hR 7 (by kernel_rfl)) (by decide))
  intro KK af;go_simp;refine af _ ?_;clear af KK;refine aw ?_;intro vs w5 hI;obtain⟨A5,n5,-,Ri,Wi,hv1,hv2⟩:=hI.one (by decide);have O5:=q_ hI.ei.turns;have oT:=q_ (show ar w5 g 64 (p.cells F u) from hI.ei.blk);have L5:=q_ Wi;have OK5:=q_ Ri;have e1:=hv1 (by decide);have e2:=hv2 (by decide);rw[e1,e2];clear hI Ri Wi hv1 hv2 e1 e2;intro KK af;have kg:=fun a w h=>af .normal a w h;simp only[List.drop_succ_cons];go_wp2_with fail;refine(wj g Mu S c st p bs F u (M.qR st.m x.path) A5 n5 (New w w5) w5 OK5.o L5.o (fun b hb=>⟨hb.2,fun hm=>by have:=H.o.pl.mu b hm;have:=hb.1;omega⟩) oT.o (H.o.pl.only O5.o)).mono ?_
  rintro e w6 ⟨rfl,h1,h2,h3⟩;have T6:=q_ ((O5.o.mu GM.o).trans (h1.mu GM.o) (fun _ _ h=>h));have P6:=q_ h2;have G6:=q_ h3;clear h1 h2 h3;go_wp2
  (first|(go_end0)|(refine kg _ _ ?_;go_end0));exact cD.ok LAW.o T6.o rfl P6.o G6.o (fun _ _ h=>h)
 ·have YD:=q_ hz
  have LAW:=q_ (show M.cut F u (M.iB c d st x ks)=(.error (M.asked st.m x.path true),u) by
   have h1:M.iB c d st x ks=(.error (M.asked st.m x.path true),0):=by unfold M.iB;rw[if_neg (by omega),if_neg (by omega),if_pos mq.o,if_pos hz]
   rw[h1,M.bZ (by show u+0<=F;have:=H.o.uF;omega)];rfl)
  clear hz;refine ak (KP:=fun _ _=>False) 10 [] (EI w g p F u u 100) (by kernel_rfl) (by kernel_rfl) (EI.start H.o.gb) (fun ch a2 w5 hd hk=>hk.elim) ?_
  iterate 10
   apply ae rfl
   ·intro L vs wx hI hR hL K hK
    first
    |have c0:=fun i=>(hI.turns.blk H.o.FK GN.o.2.1).cell i
     go_simp;exact hK _ (hI.pure (by decide))
    |have c0:=fun i=>(qb hI.blk HV.o i)
     go_simp;exact hK _ (hI.pure (by decide))
    |have c0:=fun i=>(hI.turns.blk H.o.Q9 GN.o.2.2.2.1).cell i
     go_simp;exact hK _ (hI.pure (by decide))
    |go_simp
     exact(KS.o wx hI.turns).mono fun e w' hc=>⟨_,(hc.gone YD.o).1,hK _ (hI.on (by decide) (hc.gone YD.o).2)⟩
   intro KK af;go_simp;refine af _ ?_;clear af KK
  refine aw ?_;intro vs w5 hI;have O5:=q_ hI.turns;have oT:=q_ (show ar w5 g 64 (p.cells F u) from hI.blk);clear hI;intro KK af;have kg:=fun a w h=>af .normal a w h;simp only[List.drop_succ_cons];go_wp2_with fail;refine(y7 g _ w5 YD.o).mono ?_
  rintro e w6 ⟨rfl,hb⟩;have T6:=q_ ((O5.o.mu GM.o).on hb);have G6:=q_ (oT.o.below hb oT.o.lt);clear hb;unfold dt;go_wp2
  first
   |exact⟨rfl,cD.err LAW.o T6.o rfl G6.o⟩
   |(refine af (.panic _) _ _ ?_;exact⟨rfl,cD.err LAW.o T6.o rfl G6.o⟩)
theorem b9.route{c:M.Cx}{st:M.St}{name:ByteArray}{rv':Value}(h:b9 w g Mu S c st p bs)(hg:ax (fun b=>b=g\/p.rv.ownBlock=some b) w w')(ho:aD bN 9 w' 0 xz rv' (st.routes++[name]))(hn:rv'.ownBlock=p.rv.ownBlock\/∃b,rv'.ownBlock=some b/\w.heap.size<=b/\b<w'.heap.size)(hr:st.routes.length+1<=4000):
 ∃ml:Nat->Prop,b9 w' g ml S c {st with routes:=st.routes++[name]} {p with rv:=rv'} bs/\∀b,b<w.heap.size->ml b->Mu b:=by
 have keep:∀q,q<w.heap.size->q≠g->p.rv.ownBlock≠some q->w'.heap[q]? =w.heap[q]? :=fun q hq h1 h2=>hg.block q hq (fun e=>e.elim h1 h2);have hS:∀q,S q->q<w.heap.size/\q≠g/\p.rv.ownBlock≠some q:=fun q hq=>⟨(h.far q hq).1,h.gne q hq,fun e=>(h.far q hq).2 (h.jV q e).1⟩
 have hk:∀q:Addr,S q.block->w'.cell? q=w.cell? q:=fun q hq=>World.cell?_of_block (keep _ (hS _ hq).1 (hS _ hq).2.1 (hS _ hq).2.2);obtain⟨A,n,e1,e2,e3⟩:=h.msg;obtain⟨A2,n2,f1,f2,f3⟩:=h.tabs;obtain⟨m1,m2,m,m3⟩:=h.mx
 have hne:∀b,rv'.ownBlock=some b->(p.rv.ownBlock=some b\/(w.heap.size<=b/\b<w'.heap.size)):=fun b hb=>by
  rcases hn with h1|⟨q,h1,h2,h3⟩
  ·exact .inl (h1▸hb)
  ·rw[h1] at hb
   cases hb;exact .inr ⟨h2,h3⟩
 refine⟨fun b=>Mu b\/New w w' b,⟨h.d,h.now,h.stop,h.jU,⟨A,n,e1,e2,e3.keep (fun _ h=>h) hk⟩,⟨A2,n2,f1,f2,f3.keep (fun _ h=>h) hk⟩,ho,
  h.scopes.stay hg.size (fun q hq hc=>hc.elim (fun x=>x.elim) (fun x=>keep q hq (h.jF q x).2.1 (h.jF q x).2.2)),⟨h.maps.1,fun i b s hb hs=>(h.maps.2 i b s hb hs).keep (keep b (h.mine b (m_ hb)).2.1 (h.mine b (m_ hb)).2.2.1 (h.mine b (m_ hb)).2.2.2.2)⟩,h.apart,
  fun b hb=>⟨.inl (h.mine b hb).1,l_ (h.mine b hb).2.1 hg.size,(h.mine b hb).2.2.1,(h.mine b hb).2.2.2.1,fun e=>(hne b e).elim (h.mine b hb).2.2.2.2 (fun x=>by have:=(h.mine b hb).2.1;omega)⟩,
  fun b hb=>(hne b hb).elim (fun x=>⟨.inl (h.jV b x).1,(h.jV b x).2⟩) (fun x=>⟨.inr x,fun e=>by have:=h.mu g h.gM;omega⟩),
  fun b hb=>⟨.inl (h.jF b hb).1,(h.jF b hb).2.1,fun e=>(hne b e).elim (h.jF b hb).2.2 (fun x=>by have:=h.mu b (h.jF b hb).1;omega)⟩,.inl h.gM,
  fun b hb=>⟨l_ (h.far b hb).1 hg.size,fun hm=>hm.elim (h.far b hb).2 (fun x=>by have:=(h.far b hb).1;have:=x.1;omega)⟩,
  fun b hb=>hb.elim (fun x=>l_ (h.mu b x) hg.size) (fun x=>x.2),h.vals,by show(st.routes++[name]).length<=4000;rw[List.length_append];exact hr,h.gN,h.fT,
  ⟨l_ m1 hg.size,fun hm=>hm.elim m2 (fun x=>by have:=x.1;omega),m,(World.cell?_of_block (keep _ m1 (fun e=>m2 (by rw[show(0:Nat)=g from e];exact h.gM)) (fun e=>m2 (h.jV 0 e).1))).trans m3⟩⟩,fun b hb hm=>hm.elim (fun x=>x) (fun x=>by have:=x.1;omega)⟩
theorem Bu{P:Program}{ops:Array Oper}{KP:List PanicEntry->World->Prop}{o:Oper}{a:Act}{w:World}{K:Value->World->Prop}(hg:o.guard=none)(s x:Operand)(t:TypeId)(ho:o.op= .call {callee:= .builtin .append,args:=#[s,x],argTypes:=#[t,t]}){v1 vx v':Value}{w':World}(hs:a.eval s=v1)(hx:a.eval x=vx)(hr:(Builtin.append_ #[t,t] o.type #[v1,vx]).run P w= .ok v' w')(hK:K v' w'):nZ P ops KP o a w K:=by
 unfold nZ;have hw:Region.wanted o (yielded ops a.tmps)=true:=by simp[Region.wanted,hg]
 rw[if_pos hw];unfold execOp;simp only[ho,resolve,invoke,builtin,Sem.run_bind,Sem.run_pure,Result.andThen_ok,List.map_toArray,List.map_cons,List.map_nil,hs,hx,hr];exact hK
theorem Ih(w:World)(ty:TypeId)(v:Value)(xs:List ByteArray)(s:ByteArray)(q:Nat)(h:aD bN 9 w 0 xz v xs)(hq:ar w q 9 #[.string s])(hs:s.size<=1048576)(hl:xs.length<=1048576):
 ∃v' w',(Builtin.append_ #[31,31] ty #[v,.slice (some ⟨q,0,none⟩) 1 1]).run Tryz.prog w= .ok v' w'/\aD bN 9 w' 0 xz v' (xs++[s])/\w.grownBy w' v.ownBlock/\(v'.ownBlock=v.ownBlock\/v'.ownBlock=some w.heap.size):=by
 obtain⟨i,hi,hz,hs1,hb1⟩:=info_parts ji;obtain⟨cs,ho,he⟩:=h.row
 obtain⟨v',w',hr,AW,hg,_,hn⟩:=run_append_own_at (P:=Tryz.prog) w 0 31 ty 9 i _ 1 16 Tryz.underlying31 hi hz hs1 hb1 rfl (by omega) v xs.length cs ho ⟨q,0,none⟩ 1 1 [.string s] rfl (fun j u hu=>by
  cases j with
  |zero=>simp at hu;subst hu;exact hq.cell 0
  |succ j=>simp at hu) (fun u hu=>by simp at hu;subst hu;rfl) (by unfold maxLen;omega) (by omega) (Nat.zero_le _)
 refine⟨v',w',hr,⟨⟨cs++[.string s],by rw[List.length_append];exact AW,fun j y hy=> ?_⟩,fun _ _ h=>h,fun _ h=>h.elim⟩,hg,hn⟩;have hE:bN.n=1:=rfl;have lH:cs.length=xs.length:=by have:=ho.1;rwa [hE,Nat.mul_one] at this
 rcases Nat.lt_or_ge j xs.length with hj|hj
 ·rw[List.getElem?_append_left hj] at hy
  obtain⟨es,hr,Jt⟩:=he j y hy;refine⟨es,hr,fun k u hu=> ?_⟩;have:=Jt k u hu;have hk:k<1:=by have h1:=(g_ hu).1;rw[bN.len hr] at h1;exact h1
  rw[List.getElem?_append_left (by rw[lH];show j*1+k<xs.length;omega)];exact this
 ·rw[List.getElem?_append_right hj] at hy
  have nt:j-xs.length=0:=by
   have:=(g_ hy).1;simp at this;omega
  rw[nt] at hy;simp at hy;subst hy;refine⟨[.string s],⟨rfl,hs⟩,fun k u hu=> ?_⟩;cases k with
  |zero=>
   rw[List.getElem?_append_right (by rw[lH];show xs.length<=j*1+0;omega),lH,show j*bN.n+0-xs.length=0 by rw[hE];omega];exact hu
  |succ k=>simp at hu
structure RI(W0:World)(g:Nat)(p:PV)(F u:Nat)(xs:List ByteArray)(s:ByteArray)(L:Nat->Bool)(vs:Nat->Value)(w:World):Prop where
 turns:ax (fun b=>p.rv.ownBlock=some b) W0 w
 blk:ar w g 64 (p.cells F u)
 rv:L 8=false->aD bN 9 w 0 xz p.rv xs
 seven:L 7=true->L 8=false->∃q,vs 7= .slice (some ⟨q,0,none⟩) 1 1/\W0.heap.size<=q/\ar w q 9 #[.string s]
 eight:L 8=true->aD bN 9 w 0 xz (vs 8) (xs++[s])/\((vs 8).ownBlock=p.rv.ownBlock\/∃b,(vs 8).ownBlock=some b/\W0.heap.size<=b/\b<w.heap.size)
 w8:L 8=true->L 7=true
section
variable {W0 w w':World} {g:Nat} {p:PV} {F u:Nat} {xs:List ByteArray} {s:ByteArray} {L:Nat->Bool} {vs:Nat->Value}
theorem RI.start(hk:ar W0 g 64 (p.cells F u))(ho:aD bN 9 W0 0 xz p.rv xs):RI W0 g p F u xs s (fun _=>false) vs {W0 with drawn:=W0.drawn+1}:=
 ⟨⟨rfl,rfl,rfl,n_,fun _ _ _=>rfl⟩,hk,fun _=>ho.below ⟨rfl,rfl,rfl,n_,fun _ _=>rfl⟩,(fun h=>by cases h),(fun h=>by cases h),(fun h=>by cases h)⟩
theorem RI.pure(h:RI W0 g p F u xs s L vs w){k:Nat}{x:Value}(h7:k≠7)(h8:k≠8):RI W0 g p F u xs s (upd L k) (aS vs k x) w:=by
 have e7:upd L k 7=L 7:=by simp[upd,Ne.symm h7]
 have e8:upd L k 8=L 8:=by simp[upd,Ne.symm h8]
 have v7:aS vs k x 7=vs 7:=by simp[aS,Ne.symm h7]
 have v8:aS vs k x 8=vs 8:=by simp[aS,Ne.symm h8]
 exact⟨h.turns,h.blk,by rw[e8];exact h.rv,by rw[e7,e8,v7];exact h.seven,by rw[e8,v8];exact h.eight,by rw[e7,e8];exact h.w8⟩
theorem RI.make(h:RI W0 g p F u xs s L vs w)(hL:L 7=false):RI W0 g p F u xs s (upd L 7) (aS vs 7 (.slice (some ⟨w.heap.size,0,none⟩) 1 1)) (w.alloc (.cells #[.string s] 9)):=by
 have n8:L 8=false:=by cases hq:L 8 with|false=>rfl|true=>rw[h.w8 hq] at hL;cases hL
 have e8:upd L 7 8=L 8:=by simp[upd]
 exact⟨h.turns.on ((Below.refl _ w).alloc (n_) _),h.blk.alloc _,fun _=>(h.rv n8).alloc _,fun _ _=>⟨w.heap.size,by simp[aS],h.turns.size,ar.new _ _ _⟩,fun hq=>(by rw[e8,n8] at hq;cases hq),fun _=>by simp[upd]⟩
theorem RI.app(h:RI W0 g p F u xs s L vs w){v':Value}(hL:L 8=false)(h7:L 7=true)(hg0:g<W0.heap.size)(hne:p.rv.ownBlock≠some g)(ho:aD bN 9 w' 0 xz v' (xs++[s]))(hg:w.grownBy w' p.rv.ownBlock)(hn:v'.ownBlock=p.rv.ownBlock\/v'.ownBlock=some w.heap.size):RI W0 g p F u xs s (upd L 8) (aS vs 8 v') w':=by
 have e7:upd L 8 7=L 7:=by simp[upd]
 refine⟨h.turns.Ha (fun b hb _=>hb) hg,h.blk.grown hg (fun e=>hne e.symm),fun hq=>by simp[upd] at hq,fun _ hq=>by simp[upd] at hq,fun _=>⟨by simpa[aS] using ho,?_⟩,fun _=>by rw[e7];exact h7⟩;simp only[aS,if_true];rcases hn with hn|hn
 ·exact .inl hn
 ·exact .inr ⟨_,hn,h.turns.size,(ho.aJ hn).2⟩
end
theorem JU{w:World}{g:Nat}{p:PV}{F q:Nat}{v:Value}(h:ar w g 64 (p.cells F q))(hv:p.rv=v)(i:Nat):w.cell? ⟨g,i,none⟩=#[.int .u8 (p.d.f.toNat:Int),.int .u8 (p.d.c.toNat:Int),.int .u8 (p.d.r.toNat:Int),.int .u8 (p.d.e.toNat:Int),.int .u8 (p.d.s.toNat:Int),p.v,p.tv,.string p.now,.int .i64 (F:Nat),.int .i64 (q:Nat),v,.bool p.stop,p.sv][i]? :=by
 subst hv;exact h.cell i
theorem U9{w:World}{g pb lb xb:Nat}{Mu S SP:Nat->Prop}{c:M.Cx}{st:M.St}{p:PV}{bs:List Nat}{F u d:Nat}{x:M.Node}{ks:List M.Tree}{A1:Option Addr}{c1:Nat}(h:xL w g pb lb xb Mu S SP c st p bs F u x ks A1 c1)(hop:x.op=5):
 Calls Tryz.prog 128 #[.pointer (some ⟨pb,0,none⟩),.pointer (some ⟨xb,0,none⟩)] w (cD w g Mu c F (M.cut F u (M.iB c d st x ks))):=by
 have LAW:=q_ (show M.cut F u (M.iB c d st x ks)=(.ok {st with routes:=if M.fo st.routes x.text=true then st.routes else st.routes++[x.text]},u) by
  have h1:M.iB c d st x ks=(.ok {st with routes:=if M.fo st.routes x.text=true then st.routes else st.routes++[x.text]},0):=by unfold M.iB;rw[if_neg (by omega),if_neg (by omega),if_neg (by omega),if_neg (by omega),if_pos hop]
  rw[h1,M.bZ (by show u+0<=F;have:=h.uF;omega)];rfl)
 have yF:x.text.size<=1048576:=h.x64.2.2.1;have H:=q_ h;have GN:=q_ h.gM.2;have GM:=q_ h.gM.1;obtain⟨AR,nr,U'⟩:=h.pl.routes.shape;have HRV:=q_ U';have HRO:=q_ h.pl.fB;have HRG:=q_ (show p.rv.ownBlock≠some g from fun e=>(h.pl.jV g e).2 rfl)
 have KC:=q_ (fun(W:World) (hW:Below w.heap.size w W)=>show Calls Tryz.prog 129 #[.slice AR st.routes.length nr,.string x.text] W fun e w'=>e= .returned (.bool (M.fo st.routes x.text))/\Below W.heap.size W w' from by
  have hr:=(h.pl.routes.below hW).reads (S':=fun b=>p.rv.ownBlock=some b) (fun b hb=>hb.elim) (fun b hb=>hb) (by have:=h.pl.fB;omega);rw[U'] at hr;obtain⟨A',n',e,aI,hl⟩:=aU.av (E:=bN) hr;injection e with e1 e2 e3;subst e1 e3;exact mi x.text AR st.routes.length nr st.routes (fun b=>p.rv.ownBlock=some b) W (fun b hb=>((h.pl.routes.below hW).aJ hb).2) aI.le (by rw[<-U'] at hl;exact hl))
 clear h U';go_enter Tryz.func128,Tryz.ntmps128;go_wp2_with fail;refine ak (KP:=fun _ _=>False) 8 [] (fL w) (by kernel_rfl) (by kernel_rfl) (fL.start w) (fun ch a2 w5 hd hk=>hk.elim) ?_
 iterate 8
  apply ae rfl
  ·intro L vs wx hI hR hL K hK
   first
   |have c0:=fun i=>(H.o.FK.below hI H.o.FK.lt).cell i
    go_simp;exact hK _ hI
   |have c0:=fun i=>(JU (H.o.gb.below hI H.o.gb.lt) HRV.o i)
    go_simp;exact hK _ hI
   |have c0:=fun i=>(H.o.Q9.below hI H.o.Q9.lt).cell i
    go_simp;exact hK _ hI
   |go_simp
    exact(KC.o wx hI).mono fun e w' ⟨h1,h2⟩=>⟨_,h1,hK _ (hI.trans (h2.mono hI.size))⟩
  intro KK af;go_simp;refine af _ ?_;clear af KK
 refine aw ?_;intro vs w5 hI;have B5:=q_ (show Below w.heap.size w w5 from hI);have NH:=q_ (H.o.FK.below hI H.o.FK.lt);have Ww:=q_ (H.o.Q9.below hI H.o.Q9.lt);have oT:=q_ (H.o.gb.below hI H.o.gb.lt);have P5:=q_ (H.o.pl.below hI);clear hI;intro KK af;have kg:=fun a w h=>af .normal a w h;simp only[List.drop_succ_cons,List.drop_nil];cases hq:M.fo st.routes x.text with
 |true=>
  have cu:=q_ (show M.cut F u (M.iB c d st x ks)=(.ok st,u) by rw[LAW.o,if_pos hq]);clear hq;go_wp2
  (first|(go_end0)|(refine kg _ _ ?_;go_end0));exact cD.ok cu.o (ax.of B5.o) rfl P5.o oT.o (fun _ _ h=>h)
 |false=>
  have cu:=q_ (show M.cut F u (M.iB c d st x ks)=(.ok {st with routes:=st.routes++[x.text]},u) by rw[LAW.o,if_neg (by rw[hq];decide)]);clear hq;go_wp2_with fail;refine ak (KP:=fun _ _=>False) 11 [7,8] (RI w5 g p F u st.routes x.text) (by kernel_rfl) (by kernel_rfl) (RI.start oT.o P5.o.routes) (fun ch a2 w5 hd hk=>hk.elim) ?_
  iterate 7
   apply ae rfl
   ·intro L vs wx hI hR hL K hK
    first
    |have c0:=fun i=>(hI.turns.blk NH.o (fun e=>H.o.far.1 (H.o.pl.jV pb e).1)).cell i
     go_simp;exact hK _ (hI.pure (by decide) (by decide))
    |have c0:=fun i=>(JU hI.blk HRV.o i)
     go_simp;exact hK _ (hI.pure (by decide) (by decide))
    |have c0:=fun i=>(hI.turns.blk Ww.o (fun e=>H.o.far.2.2 (H.o.pl.jV xb e).1)).cell i
     go_simp;exact hK _ (hI.pure (by decide) (by decide))
   intro KK af;go_simp;refine af _ ?_;clear af KK
  refine bc rfl ?_ ?_
  ·intro L vs wx hI hR hL K hK
   have hLc:=hL;go_simp;exact hK _ _ (hI.make hLc)
  intro KK af;go_simp;refine af _ ?_;clear af KK;refine bc rfl ?_ ?_
  ·intro L vs wx hI hR hL K hK
   have h7:=hR 7 (by kernel_rfl);obtain⟨q,e7,hq1,Yw⟩:=hI.seven h7 hL;obtain⟨v',w',hr,ho,hg,hn⟩:=Ih wx 31 p.rv st.routes x.text q (hI.rv hL) Yw yF (by have:=HRO.o;omega);rw[HRV.o] at hr;exact Bu rfl (.tmp 14) (.tmp 17) 31 rfl rfl (by rw[<-e7];rfl) hr (hK _ _ (hI.app hL h7 oT.o.lt HRG.o ho hg hn))
  intro KK af;go_simp;refine af _ ?_;clear af KK
  iterate 2
   apply ae rfl
   ·intro L vs wx hI hR hL K hK
    go_simp;exact hK _ (hI.pure (by decide) (by decide))
   intro KK af;go_simp;refine af _ ?_;clear af KK
  refine aw ?_;intro vs8 w8 hI;obtain⟨ho8,hn8⟩:=hI.eight (by decide);obtain⟨A8,c8,e8⟩:=ho8.shape;have T8:=q_ hI.turns;have G8:=q_ hI.blk;rw[e8] at ho8 hn8⊢;have O8:=q_ ho8;have N8:=q_ hn8;clear hI ho8 hn8 e8;intro KK af;have kg:=fun a w h=>af .normal a w h;simp only[List.drop_succ_cons];refine bH rfl 31 (.tmp 20) (.tmp 18) rfl g 10 (.slice A8 (st.routes++[x.text]).length c8) _ (by rfl) (by rfl) (G8.o.cell 10) (G8.o.frozen 10) (by kernel_rfl) (by rfl) ?_;intro w9 YE;have g9:w8.grownBy w9 (some g):=YE▸aV w8 g 10 _;have G9:ar w9 g 64 (PV.cells {p with rv:= .slice A8 (st.routes++[x.text]).length c8} F u):=YE▸G8.o.fK 10 _
  have hne:∀b,(Value.slice A8 (st.routes++[x.text]).length c8).ownBlock=some b->b≠g:=fun b hb e=>by
   subst e;rcases N8.o with h1|⟨q,h1,h2,_⟩
   ·exact HRG.o (h1▸hb)
   ·rw[h1] at hb;cases hb;have:=oT.o.lt;omega
  have O9:=O8.o.aK g9 (fun e=>hne g e rfl) (fun h=>h);have T9:ax (fun b=>b=g\/p.rv.ownBlock=some b) w w9:=((ax.of (Mu:=fun b=>b=g\/p.rv.ownBlock=some b) B5.o).trans T8.o (fun b _ h=> .inr h)).grown (fun _=> .inl rfl) g9;obtain⟨ml,hP9,hM9⟩:=H.o.pl.route T9 O9 (N8.o.imp (fun h=>h) (fun⟨b,h1,h2,h3⟩=>⟨b,h1,t_ B5.o.size h2,l_ h3 g9.size⟩)) (by have:=H.o.ro;have:=H.o.uF;have:=H.o.hF;omega);have P9:=q_ hP9;have M9:=q_ hM9;have GF:=q_ G9;have TF:=q_ (show ax Mu w w9 from T9.wide (fun b _ h=>h.elim (fun e=>e▸GM.o) (fun e=>(H.o.pl.jV b e).1)));clear YE g9 G9 hne O9 T9 hP9 hM9;go_wp2
  (first|(go_end0)|(refine kg _ _ ?_;go_end0));exact cD.ok cu.o TF.o rfl P9.o GF.o M9.o
end Go.Proofs.YtpohlhkgbmdieaaGreatDoor
