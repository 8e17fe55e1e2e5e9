/- Part 21 of the proof. -/
import Derived.Test.YtpohlhkgbmdieaaGreatDoorW20
set_option linter.unusedVariables false
set_option maxRecDepth 1000000
set_option maxHeartbeats 16000000
namespace Go.Proofs.YtpohlhkgbmdieaaGreatDoor
variable{κ:Type}{enc:κ->Value}{k:TypeId}{pT:List (κ×Value)}{mb:Nat}{w:World}
open Go Go.RowKit Go.BigFrame Go.Maps Go.WideMaps
theorem PZ(g pb fb:Nat)(Mu S:Nat->Prop)(cx:M.Cx)(st:M.St)(p:PV)(bs:List Nat)(F u:Nat)(x:M.Node)(w:World)(yQ:ar w pb 58 #[.pointer (some ⟨g,0,none⟩)])(sq:ar w fb 129 #[.int .i64 x.op,.int .i64 x.n,.string x.text,.int .i64 x.num,.string x.path.aN,.int .i64 x.path.aP,.int .i64 x.path.aR,.int .i64 x.path.rep,.int .i64 x.path.comp,.int .i64 x.path.sub])(hgb:ar w g 64 #[.int .u8 (p.d.f.toNat:Int),.int .u8 (p.d.c.toNat:Int),.int .u8 (p.d.r.toNat:Int),.int .u8 (p.d.e.toNat:Int),.int .u8 (p.d.s.toNat:Int),p.v,p.tv,.string p.now,.int .i64 (F:Nat),.int .i64 (u:Nat),p.rv,.bool p.stop,p.sv])(hp:b9 w g Mu S cx st p bs)(hx:x.jd):
 Calls Tryz.prog 229 #[.pointer (some ⟨pb,0,none⟩),.pointer (some ⟨fb,0,none⟩)] w fun e w'=>e=dD (.ok (M.bk (M.has st.m x.path)))/\Below w.heap.size w w':=by
 have HE:=q_ (show(.ok (M.bk (M.has st.m x.path)):Except Int M.Val)= .ok (M.bk (M.has st.m x.path)) by rfl);have K1:=q_ (ar.new w 33 #[.int .i64 0,.string ⟨#[]⟩,.int .i64 0,.bool false]);have B1:=q_ ((Below.refl _ w).alloc (n_) (.cells #[.int .i64 0,.string ⟨#[]⟩,.int .i64 0,.bool false] 33));have PB:=q_ yQ;have FB:=q_ sq;obtain⟨A,nn,hv,aI,hl⟩:=hp.msg;have hd:=hp.d;rw[hv] at hgb;have GB:=q_ hgb;have HS:=q_ (fun b (h:S b)=>(hp.far b h).1);have nk:=q_ aI;have HL:=q_ hl;have Ut:=q_ (show(⟨p.d,st.m.aH⟩:M.dQ)=st.m by rw[hd]);clear hd aI hl;clear yQ sq hgb hp;go_enter Tryz.func229,Tryz.ntmps229;go_wp2_with fail;generalize w.alloc (.cells #[.int .i64 0,.string ⟨#[]⟩,.int .i64 0,.bool false] 33)=w1 at K1 B1⊢;refine ak (KP:=fun _ _=>False) 8 [] (fL w1) (by kernel_rfl) (by kernel_rfl) (fL.start w1) (fun ch a2 w5 hd hk=>hk.elim) ?_
 iterate 8
  apply ae rfl
  ·intro L vs wx hI hR hL K hK
   first
   |have c0:=fun i=>((PB.o.below B1.o PB.o.lt).below hI (l_ PB.o.lt B1.o.size)).cell i
    go_simp;exact hK _ hI
   |have c0:=fun i=>((GB.o.below B1.o GB.o.lt).below hI (l_ GB.o.lt B1.o.size)).cell i
    go_simp;exact hK _ hI
   |have c0:=fun i=>((FB.o.below B1.o FB.o.lt).below hI (l_ FB.o.lt B1.o.size)).cell i
    go_simp;exact hK _ hI
   |go_simp
    exact(TD p.d A nn st.m.aH x.path S wx (fun b h=>l_ (HS.o b h) (B1.o.trans (hI.mono B1.o.size)).size) nk.o (HL.o.below (B1.o.trans (hI.mono B1.o.size)) HS.o) hx.2.2.2.2).mono fun e w' ⟨h1,h2⟩=>⟨_,h1,hK _ (hI.trans (h2.mono hI.size))⟩
   |go_simp
    exact(cm _ _).mono fun e w' ⟨h1,h2⟩=>⟨_,h1,hK _ (hI.trans (h2.mono hI.size))⟩
  intro KK af;go_simp;refine af _ ?_;clear af KK
 refine aw ?_;intro vs w2 hI;have B2:=q_ (B1.o.trans (hI.mono B1.o.size));have K2:=q_ (K1.o.below hI K1.o.lt);clear hI;intro KK af;have kg:=fun a w h=>af .normal a w h;simp only[List.drop_succ_cons];refine aq rfl (.tmp 2) (.tmp 10) rfl w.heap.size (M.bk (M.has ⟨p.d,st.m.aH⟩ x.path)) (by rfl) (by rfl) (K2.o) rfl ?_;intro w9 k9 g9;have K9:=q_ k9;have B9:=q_ (ai B2.o g9 (n_));clear k9 g9;go_wp2_with fail
 (try simp only[Exit.inBlock,Exit.then]);exact bodyPost_ret (aT rfl K9.o rfl) rfl ⟨by rw[<-Ut.o];rfl,B9.o⟩
theorem P0(g pb fb:Nat)(Mu S:Nat->Prop)(cx:M.Cx)(st:M.St)(p:PV)(bs:List Nat)(F u:Nat)(x:M.Node)(w:World)(yQ:ar w pb 58 #[.pointer (some ⟨g,0,none⟩)])(sq:ar w fb 129 #[.int .i64 x.op,.int .i64 x.n,.string x.text,.int .i64 x.num,.string x.path.aN,.int .i64 x.path.aP,.int .i64 x.path.aR,.int .i64 x.path.rep,.int .i64 x.path.comp,.int .i64 x.path.sub])(hgb:ar w g 64 #[.int .u8 (p.d.f.toNat:Int),.int .u8 (p.d.c.toNat:Int),.int .u8 (p.d.r.toNat:Int),.int .u8 (p.d.e.toNat:Int),.int .u8 (p.d.s.toNat:Int),p.v,p.tv,.string p.now,.int .i64 (F:Nat),.int .i64 (u:Nat),p.rv,.bool p.stop,p.sv])(hp:b9 w g Mu S cx st p bs)(hx:x.jd):
 Calls Tryz.prog 231 #[.pointer (some ⟨pb,0,none⟩),.pointer (some ⟨fb,0,none⟩)] w fun e w'=>e=dD (.ok (M.fx (M.count st.m x.text)))/\Below w.heap.size w w':=by
 have HE:=q_ (show(.ok (M.fx (M.count st.m x.text)):Except Int M.Val)= .ok (M.fx (M.count st.m x.text)) by rfl);have K1:=q_ (ar.new w 33 #[.int .i64 0,.string ⟨#[]⟩,.int .i64 0,.bool false]);have B1:=q_ ((Below.refl _ w).alloc (n_) (.cells #[.int .i64 0,.string ⟨#[]⟩,.int .i64 0,.bool false] 33));have PB:=q_ yQ;have FB:=q_ sq;obtain⟨A,nn,hv,aI,hl⟩:=hp.msg;have hd:=hp.d;rw[hv] at hgb;have GB:=q_ hgb;have HS:=q_ (fun b (h:S b)=>(hp.far b h).1);have nk:=q_ aI;have HL:=q_ hl;have Ut:=q_ (show(⟨p.d,st.m.aH⟩:M.dQ)=st.m by rw[hd]);clear hd aI hl;clear yQ sq hgb hp;go_enter Tryz.func231,Tryz.ntmps231;go_wp2_with fail;generalize w.alloc (.cells #[.int .i64 0,.string ⟨#[]⟩,.int .i64 0,.bool false] 33)=w1 at K1 B1⊢;refine ak (KP:=fun _ _=>False) 8 [] (fL w1) (by kernel_rfl) (by kernel_rfl) (fL.start w1) (fun ch a2 w5 hd hk=>hk.elim) ?_
 iterate 8
  apply ae rfl
  ·intro L vs wx hI hR hL K hK
   first
   |have c0:=fun i=>((PB.o.below B1.o PB.o.lt).below hI (l_ PB.o.lt B1.o.size)).cell i
    go_simp;exact hK _ hI
   |have c0:=fun i=>((GB.o.below B1.o GB.o.lt).below hI (l_ GB.o.lt B1.o.size)).cell i
    go_simp;exact hK _ hI
   |have c0:=fun i=>((FB.o.below B1.o FB.o.lt).below hI (l_ FB.o.lt B1.o.size)).cell i
    go_simp;exact hK _ hI
   |go_simp
    exact(yo p.d A nn st.m.aH x.text S wx (fun b h=>l_ (HS.o b h) (B1.o.trans (hI.mono B1.o.size)).size) nk.o (HL.o.below (B1.o.trans (hI.mono B1.o.size)) HS.o)).mono fun e w' ⟨h1,h2⟩=>⟨_,h1,hK _ (hI.trans (h2.mono hI.size))⟩
   |go_simp
    exact(iG _ _).mono fun e w' ⟨h1,h2⟩=>⟨_,h1,hK _ (hI.trans (h2.mono hI.size))⟩
  intro KK af;go_simp;refine af _ ?_;clear af KK
 refine aw ?_;intro vs w2 hI;have B2:=q_ (B1.o.trans (hI.mono B1.o.size));have K2:=q_ (K1.o.below hI K1.o.lt);clear hI;intro KK af;have kg:=fun a w h=>af .normal a w h;simp only[List.drop_succ_cons];refine aq rfl (.tmp 2) (.tmp 10) rfl w.heap.size (M.fx (M.count ⟨p.d,st.m.aH⟩ x.text)) (by rfl) (by rfl) (K2.o) rfl ?_;intro w9 k9 g9;have K9:=q_ k9;have B9:=q_ (ai B2.o g9 (n_));clear k9 g9;go_wp2_with fail
 (try simp only[Exit.inBlock,Exit.then]);exact bodyPost_ret (aT rfl K9.o rfl) rfl ⟨by rw[<-Ut.o];rfl,B9.o⟩
theorem P8(g pb fb:Nat)(Mu S:Nat->Prop)(cx:M.Cx)(st:M.St)(p:PV)(bs:List Nat)(F u:Nat)(x:M.Node)(a:List M.Val)(ab ga n c:Nat)(w:World)(yQ:ar w pb 58 #[.pointer (some ⟨g,0,none⟩)])(sq:ar w fb 129 #[.int .i64 x.op,.int .i64 x.n,.string x.text,.int .i64 x.num,.string x.path.aN,.int .i64 x.path.aP,.int .i64 x.path.aR,.int .i64 x.path.rep,.int .i64 x.path.comp,.int .i64 x.path.sub])(hgb:ar w g 64 #[.int .u8 (p.d.f.toNat:Int),.int .u8 (p.d.c.toNat:Int),.int .u8 (p.d.r.toNat:Int),.int .u8 (p.d.e.toNat:Int),.int .u8 (p.d.s.toNat:Int),p.v,p.tv,.string p.now,.int .i64 (F:Nat),.int .i64 (u:Nat),p.rv,.bool p.stop,p.sv])(hp:b9 w g Mu S cx st p bs)(hx:x.jd)(hA:lC w ab ga n c a)(hk:3<=a.length)(hT:M.fo (aG cx.tables) x.text=true):
 Calls Tryz.prog 232 #[.pointer (some ⟨pb,0,none⟩),.pointer (some ⟨fb,0,none⟩),.pointer (some ⟨ab,0,none⟩)] w fun e w'=>e=dD (.ok (M.br ((M.look (M.aY a 1).text (M.bQ cx.tables x.text).entries).getD (M.aY a 2).text)))/\Below w.heap.size w w':=by
 obtain⟨v0,h0,e0⟩:=ry (a:=a) (i:=0) (by omega);have O0:=q_ (hA.ok v0 (m_ h0));have C0:=q_ (fun(W:World) (h:Below w.heap.size w W)=>(hA.below h).cell 0 v0 h0);obtain⟨v1,h1,e1⟩:=ry (a:=a) (i:=1) (by omega);have O1:=q_ (hA.ok v1 (m_ h1));have C1:=q_ (fun(W:World) (h:Below w.heap.size w W)=>(hA.below h).cell 1 v1 h1);obtain⟨v2,h2,e2⟩:=ry (a:=a) (i:=2) (by omega);have O2:=q_ (hA.ok v2 (m_ h2));have C2:=q_ (fun(W:World) (h:Below w.heap.size w W)=>(hA.below h).cell 2 v2 h2);have hlen:=hA.len;have g0:(0<n)=True:=eq_true (by omega);have PX:((0:Int)<(n:Int))=True:=eq_true (by omega);have ZP:((1:Int)<(n:Int))=True:=eq_true (by omega);have gi2:((2:Int)<(n:Int))=True:=eq_true (by omega);have HE:=q_ (show(.ok (M.br ((M.look (M.aY a 1).text (M.bQ cx.tables x.text).entries).getD (M.aY a 2).text)):Except Int M.Val)= .ok (M.br ((M.look v1.text (M.bQ cx.tables x.text).entries).getD v2.text)) by rw[e1,e2]);have HA:=q_ hA;have K1:=q_ (ar.new w 33 #[.int .i64 0,.string ⟨#[]⟩,.int .i64 0,.bool false])
 have B1:=q_ ((Below.refl _ w).alloc (n_) (.cells #[.int .i64 0,.string ⟨#[]⟩,.int .i64 0,.bool false] 33));have PB:=q_ yQ;have FB:=q_ sq;obtain⟨A,nn,aI,hl,iv⟩:=sj g Mu S cx st p bs F u x.text w hT hgb hp;have HS:=q_ (fun b (h:S b)=>(hp.far b h).1);have nk:=q_ aI;have HL:=q_ hl;have HC:=q_ iv;clear aI hl iv hT;clear yQ sq hgb hp hA h0 e0 h1 e1 h2 e2;go_enter Tryz.func232,Tryz.ntmps232;go_wp2_with fail;generalize w.alloc (.cells #[.int .i64 0,.string ⟨#[]⟩,.int .i64 0,.bool false] 33)=w1 at K1 B1⊢;refine ak (KP:=fun _ _=>False) 14 [] (fL w1) (by kernel_rfl) (by kernel_rfl) (fL.start w1) (fun ch a2 w5 hd hk=>hk.elim) ?_
 iterate 14
  apply ae rfl
  ·intro L vs wx hI hR hL K hK
   first
   |have c0:=fun i=>((PB.o.below B1.o PB.o.lt).below hI (l_ PB.o.lt B1.o.size)).cell i
    go_simp;exact hK _ hI
   |have c0:=fun i=>((FB.o.below B1.o FB.o.lt).below hI (l_ FB.o.lt B1.o.size)).cell i
    go_simp;exact hK _ hI
   |have c0:=(HA.o.below (B1.o.trans (hI.mono B1.o.size))).blk.cell
    go_simp;exact hK _ hI
   |have c0:=(C1.o _ (B1.o.trans (hI.mono B1.o.size))).1
    go_simp;exact hK _ hI
   |have c0:=(C2.o _ (B1.o.trans (hI.mono B1.o.size))).1
    go_simp;exact hK _ hI
   |go_simp
    exact((HC.o _ (B1.o.trans (hI.mono B1.o.size)))).mono fun e w' ⟨h1,h2⟩=>⟨_,h1,hK _ (hI.trans (h2.mono hI.size))⟩
   |go_simp
    exact(vg (M.bQ cx.tables x.text).name v1.text v2.text A nn (M.bQ cx.tables x.text).entries S wx (fun b h=>l_ (HS.o b h) (B1.o.trans (hI.mono B1.o.size)).size) nk.o (HL.o.below (B1.o.trans (hI.mono B1.o.size)) HS.o) O1.o.text).mono fun e w' ⟨h1,h2⟩=>⟨_,h1,hK _ (hI.trans (h2.mono hI.size))⟩
   |go_simp
    exact(cR _ _).mono fun e w' ⟨h1,h2⟩=>⟨_,h1,hK _ (hI.trans (h2.mono hI.size))⟩
  intro KK af;go_simp;refine af _ ?_;clear af KK
 refine aw ?_;intro vs w2 hI;have B2:=q_ (B1.o.trans (hI.mono B1.o.size));have K2:=q_ (K1.o.below hI K1.o.lt);clear hI;intro KK af;have kg:=fun a w h=>af .normal a w h;simp only[List.drop_succ_cons];refine aq rfl (.tmp 3) (.tmp 17) rfl w.heap.size (M.br ((M.look v1.text (M.bQ cx.tables x.text).entries).getD v2.text)) (by rfl) (by rfl) (K2.o) rfl ?_;intro w9 k9 g9;have K9:=q_ k9;have B9:=q_ (ai B2.o g9 (n_));clear k9 g9;go_wp2_with fail
 (try simp only[Exit.inBlock,Exit.then]);exact bodyPost_ret (aT rfl K9.o rfl) rfl ⟨by rw[HE.o];rfl,B9.o⟩
theorem Qa(g pb fb:Nat)(Mu S:Nat->Prop)(cx:M.Cx)(st:M.St)(p:PV)(bs:List Nat)(F u:Nat)(x:M.Node)(a:List M.Val)(ab ga n c:Nat)(w:World)(yQ:ar w pb 58 #[.pointer (some ⟨g,0,none⟩)])(sq:ar w fb 129 #[.int .i64 x.op,.int .i64 x.n,.string x.text,.int .i64 x.num,.string x.path.aN,.int .i64 x.path.aP,.int .i64 x.path.aR,.int .i64 x.path.rep,.int .i64 x.path.comp,.int .i64 x.path.sub])(hgb:ar w g 64 #[.int .u8 (p.d.f.toNat:Int),.int .u8 (p.d.c.toNat:Int),.int .u8 (p.d.r.toNat:Int),.int .u8 (p.d.e.toNat:Int),.int .u8 (p.d.s.toNat:Int),p.v,p.tv,.string p.now,.int .i64 (F:Nat),.int .i64 (u:Nat),p.rv,.bool p.stop,p.sv])(hp:b9 w g Mu S cx st p bs)(hx:x.jd)(hA:lC w ab ga n c a)(hk:2<=a.length)(hT:M.fo (aG cx.tables) x.text=true):
 Calls Tryz.prog 235 #[.pointer (some ⟨pb,0,none⟩),.pointer (some ⟨fb,0,none⟩),.pointer (some ⟨ab,0,none⟩)] w fun e w'=>e=dD (.ok (M.bk (M.look (M.aY a 1).text (M.bQ cx.tables x.text).entries).isSome))/\Below w.heap.size w w':=by
 obtain⟨v0,h0,e0⟩:=ry (a:=a) (i:=0) (by omega);have O0:=q_ (hA.ok v0 (m_ h0));have C0:=q_ (fun(W:World) (h:Below w.heap.size w W)=>(hA.below h).cell 0 v0 h0);obtain⟨v1,h1,e1⟩:=ry (a:=a) (i:=1) (by omega);have O1:=q_ (hA.ok v1 (m_ h1));have C1:=q_ (fun(W:World) (h:Below w.heap.size w W)=>(hA.below h).cell 1 v1 h1);have hlen:=hA.len;have g0:(0<n)=True:=eq_true (by omega);have PX:((0:Int)<(n:Int))=True:=eq_true (by omega);have ZP:((1:Int)<(n:Int))=True:=eq_true (by omega);have HE:=q_ (show(.ok (M.bk (M.look (M.aY a 1).text (M.bQ cx.tables x.text).entries).isSome):Except Int M.Val)= .ok (M.bk (M.look v1.text (M.bQ cx.tables x.text).entries).isSome) by rw[e1]);have HA:=q_ hA;have K1:=q_ (ar.new w 33 #[.int .i64 0,.string ⟨#[]⟩,.int .i64 0,.bool false]);have B1:=q_ ((Below.refl _ w).alloc (n_) (.cells #[.int .i64 0,.string ⟨#[]⟩,.int .i64 0,.bool false] 33));have PB:=q_ yQ;have FB:=q_ sq;obtain⟨A,nn,aI,hl,iv⟩:=sj g Mu S cx st p bs F u x.text w hT hgb hp;have HS:=q_ (fun b (h:S b)=>(hp.far b h).1);have nk:=q_ aI;have HL:=q_ hl
 have HC:=q_ iv;clear aI hl iv hT;clear yQ sq hgb hp hA h0 e0 h1 e1;go_enter Tryz.func235,Tryz.ntmps235;go_wp2_with fail;generalize w.alloc (.cells #[.int .i64 0,.string ⟨#[]⟩,.int .i64 0,.bool false] 33)=w1 at K1 B1⊢;refine ak (KP:=fun _ _=>False) 10 [] (fL w1) (by kernel_rfl) (by kernel_rfl) (fL.start w1) (fun ch a2 w5 hd hk=>hk.elim) ?_
 iterate 10
  apply ae rfl
  ·intro L vs wx hI hR hL K hK
   first
   |have c0:=fun i=>((PB.o.below B1.o PB.o.lt).below hI (l_ PB.o.lt B1.o.size)).cell i
    go_simp;exact hK _ hI
   |have c0:=fun i=>((FB.o.below B1.o FB.o.lt).below hI (l_ FB.o.lt B1.o.size)).cell i
    go_simp;exact hK _ hI
   |have c0:=(HA.o.below (B1.o.trans (hI.mono B1.o.size))).blk.cell
    go_simp;exact hK _ hI
   |have c0:=(C1.o _ (B1.o.trans (hI.mono B1.o.size))).1
    go_simp;exact hK _ hI
   |go_simp
    exact((HC.o _ (B1.o.trans (hI.mono B1.o.size)))).mono fun e w' ⟨h1,h2⟩=>⟨_,h1,hK _ (hI.trans (h2.mono hI.size))⟩
   |go_simp
    exact(Dl (M.bQ cx.tables x.text).name v1.text A nn (M.bQ cx.tables x.text).entries S wx (fun b h=>l_ (HS.o b h) (B1.o.trans (hI.mono B1.o.size)).size) nk.o (HL.o.below (B1.o.trans (hI.mono B1.o.size)) HS.o) O1.o.text).mono fun e w' ⟨h1,h2⟩=>⟨_,h1,hK _ (hI.trans (h2.mono hI.size))⟩
   |go_simp
    exact(cm _ _).mono fun e w' ⟨h1,h2⟩=>⟨_,h1,hK _ (hI.trans (h2.mono hI.size))⟩
  intro KK af;go_simp;refine af _ ?_;clear af KK
 refine aw ?_;intro vs w2 hI;have B2:=q_ (B1.o.trans (hI.mono B1.o.size));have K2:=q_ (K1.o.below hI K1.o.lt);clear hI;intro KK af;have kg:=fun a w h=>af .normal a w h;simp only[List.drop_succ_cons];refine aq rfl (.tmp 3) (.tmp 13) rfl w.heap.size (M.bk (M.look v1.text (M.bQ cx.tables x.text).entries).isSome) (by rfl) (by rfl) (K2.o) rfl ?_;intro w9 k9 g9;have K9:=q_ k9;have B9:=q_ (ai B2.o g9 (n_));clear k9 g9;go_wp2_with fail
 (try simp only[Exit.inBlock,Exit.then]);exact bodyPost_ret (aT rfl K9.o rfl) rfl ⟨by rw[HE.o];rfl,B9.o⟩
theorem Qb(g pb fb:Nat)(Mu S:Nat->Prop)(cx:M.Cx)(st:M.St)(p:PV)(bs:List Nat)(F u:Nat)(x:M.Node)(w:World)(yQ:ar w pb 58 #[.pointer (some ⟨g,0,none⟩)])(sq:ar w fb 129 #[.int .i64 x.op,.int .i64 x.n,.string x.text,.int .i64 x.num,.string x.path.aN,.int .i64 x.path.aP,.int .i64 x.path.aR,.int .i64 x.path.rep,.int .i64 x.path.comp,.int .i64 x.path.sub])(hgb:ar w g 64 #[.int .u8 (p.d.f.toNat:Int),.int .u8 (p.d.c.toNat:Int),.int .u8 (p.d.r.toNat:Int),.int .u8 (p.d.e.toNat:Int),.int .u8 (p.d.s.toNat:Int),p.v,p.tv,.string p.now,.int .i64 (F:Nat),.int .i64 (u:Nat),p.rv,.bool p.stop,p.sv])(hp:b9 w g Mu S cx st p bs)(hx:x.jd):
 Calls Tryz.prog 237 #[.pointer (some ⟨pb,0,none⟩)] w fun e w'=>e=dD (.ok (M.br cx.now))/\Below w.heap.size w w':=by
 have HE:=q_ (show(.ok (M.br cx.now):Except Int M.Val)= .ok (M.br cx.now) by rfl);have K1:=q_ (ar.new w 33 #[.int .i64 0,.string ⟨#[]⟩,.int .i64 0,.bool false]);have B1:=q_ ((Below.refl _ w).alloc (n_) (.cells #[.int .i64 0,.string ⟨#[]⟩,.int .i64 0,.bool false] 33));have PB:=q_ yQ;have FB:=q_ sq;have tx:=hp.now;rw[tx] at hgb;have z:=(hgb.alloc (.cells #[.int .i64 0,.string ⟨#[]⟩,.int .i64 0,.bool false] 33)).cell;have z2:=(PB.o.alloc (.cells #[.int .i64 0,.string ⟨#[]⟩,.int .i64 0,.bool false] 33)).cell;clear yQ sq hgb hp;go_enter Tryz.func237,Tryz.ntmps237;go_wp2_with fail;refine(cR _ _).mono ?_
 rintro e w2 ⟨rfl,hb⟩;have B2:=q_ (B1.o.trans (hb.mono B1.o.size));have K2:=q_ (K1.o.below hb K1.o.lt);clear hb;go_wp2_with (refine aq rfl (.tmp 1) (.tmp 6) rfl w.heap.size (M.br cx.now) (by rfl) (by rfl) (K2.o) rfl ?_;intro w9 k9 g9;have K9:=q_ k9;have B9:=q_ (ai B2.o g9 (n_));clear k9 g9)
 (try simp only[Exit.inBlock,Exit.then]);exact bodyPost_ret (aT rfl K9.o rfl) rfl ⟨rfl,B9.o⟩
def ExP(w:World)(g:Nat)(p:PV)(F:Nat)(r:Except Int M.Val×Nat)(e:Ending)(w':World):Prop:=
 aW g w w'/\ar w' g 64 (p.cells F r.2)/\e=dD r.1
def Qc(d:Nat):Prop:=∀(t:M.Tree) (g:Nat) (Mu S N:Nat->Prop) (c:M.Cx) (st:M.St) (p:PV) (bs:List Nat) (F u:Nat) (env:List (ByteArray×Int)) (aN:Bool) (k:Int) (A:Option Addr) (cap:Nat) (w:World),
 M.jP d 3 t=true->M.mh t->M.bG (aG c.tables) env d aN t= .ok k->b9 w g Mu S c st p bs->ar w g 64 #[.int .u8 (p.d.f.toNat:Int),.int .u8 (p.d.c.toNat:Int),.int .u8 (p.d.r.toNat:Int),.int .u8 (p.d.e.toNat:Int),.int .u8 (p.d.s.toNat:Int),p.v,p.tv,.string p.now,.int .i64 (F:Nat),.int .i64 (u:Nat),p.rv,.bool p.stop,p.sv]->F<=2000->u<=F->(∀b,N b->b<w.heap.size/\b≠g)->bX A (M.flat t).length cap->bn ENode w N A (M.flat t).length (M.flat t)->
 Calls Tryz.prog 120 #[.pointer (some ⟨g,0,none⟩),.slice A (M.flat t).length cap] w (ExP w g p F (M.cut F u (M.aL c st.m st.scopes d t)))
def Hu(d:Nat):Prop:=∀(t:M.Tree) (c:M.Cx) (st:M.St) (v:M.Val) (k:Nat),M.jP d 3 t=true->(∀s:M.Scope,s∈st.scopes->∀(n:ByteArray) (v:M.Val),s n=some v->iF v)->c.now.size<=1048576->(∀t∈c.tables,∀e∈t.entries,e.2.size<=1048576)->st.m.aH.length<=1048576->M.aL c st.m st.scopes d t=(.ok v,k)->iF v
theorem b9.aH{w:World}{g:Nat}{Mu S:Nat->Prop}{c:M.Cx}{st:M.St}{p:PV}{bs:List Nat}(h:b9 w g Mu S c st p bs):st.m.aH.length<=1048576:=by
 obtain⟨A,n,_,h2,_⟩:=h.msg;exact h2.le
theorem aW.blk{g:Nat}{w w':World}{b:Nat}{T:TypeId}{cs:Array Value}(h:aW g w w')(hk:ar w b T cs)(h1:b≠g):ar w' b T cs:=ax.blk h hk h1
theorem aW.nu{g:Nat}{w w':World}{α:Type}{E:aU α}{S:Nat->Prop}{A:Option Addr}{m:Nat}{xs:List α}(h:aW g w w')(hl:bn E w S A m xs)(hS:∀b,S b->b<w.heap.size/\b≠g):bn E w' S A m xs:=ax.nu h hl hS
theorem aW.tr{g:Nat}{w w' w'':World}(h:aW g w w')(h2:aW g w' w''):aW g w w'':=h.trans h2 (fun _ _ h=>h)
theorem aW.own{g:Nat}{w w':World}{α:Type}{E:aU α}{T:TypeId}{B:Nat}{v:Value}{xs:List α}(h:aW g w w')(ho:aD E T w B xz v xs)(hv:v.ownBlock≠some g):aD E T w' B xz v xs:=
 ho.stay h.size (fun b hb hc=>h.block b hb (fun e=>hc.elim (fun x=>x) (fun x=>hv (e▸x))))
structure GI(W0:World)(g:Nat)(p:PV)(F u u2:Nat)(v:M.Val)(L:Nat->Bool)(vs:Nat->Value)(w:World):Prop where
 turns:aW g W0 w
 blk:ar w g 64 (p.cells F (if L 3=true then u2 else u))
 one:L 4=true->∃q,vs 4= .slice (some ⟨q,0,none⟩) 1 1/\W0.heap.size<=q/\ar w q 33 #[.int .i64 v.kind,.string v.text,.int .i64 v.num,.bool v.truth]
section
variable {W0 w w':World} {g:Nat} {p:PV} {F u u2:Nat} {v:M.Val} {L:Nat->Bool} {vs:Nat->Value}
theorem GI.start(hk:ar W0 g 64 (p.cells F u)):GI W0 g p F u u2 v (fun _=>false) vs {W0 with drawn:=W0.drawn+1}:=
 ⟨⟨rfl,rfl,rfl,n_,fun _ _ _=>rfl⟩,hk,fun h=>by cases h⟩
theorem GI.pure(h:GI W0 g p F u u2 v L vs w){k:Nat}{x:Value}(h3:k≠3)(h4:k≠4):GI W0 g p F u u2 v (upd L k) (aS vs k x) w:=by
 have e3:upd L k 3=L 3:=by simp[upd,Ne.symm h3]
 have e4:upd L k 4=L 4:=by simp[upd,Ne.symm h4]
 have v4:aS vs k x 4=vs 4:=by simp[aS,Ne.symm h4]
 exact⟨h.turns,by rw[e3];exact h.blk,by rw[e4,v4];exact h.one⟩
theorem GI.call(h:GI W0 g p F u u2 v L vs w)(hg:g<W0.heap.size){x:Value}(h2:aW g w w')(hk:ar w' g 64 (p.cells F u2)):GI W0 g p F u u2 v (upd L 3) (aS vs 3 x) w':=by
 refine⟨h.turns.tr h2,by simpa[upd] using hk,fun hl=> ?_⟩;have e4:upd L 3 4=L 4:=by simp[upd]
 have v4:aS vs 3 x 4=vs 4:=by simp[aS]
 rw[e4] at hl;obtain⟨q,a1,a2,a3⟩:=h.one hl;exact⟨q,by rw[v4];exact a1,a2,h2.blk a3 (by omega)⟩
theorem GI.make(h:GI W0 g p F u u2 v L vs w):GI W0 g p F u u2 v (upd L 4) (aS vs 4 (.slice (some ⟨w.heap.size,0,none⟩) 1 1)) (w.alloc (.cells #[.int .i64 v.kind,.string v.text,.int .i64 v.num,.bool v.truth] 33)):=by
 have e3:upd L 4 3=L 3:=by simp[upd]
 exact⟨h.turns.on ((Below.refl _ w).alloc (n_) _),by rw[e3];exact h.blk.alloc _,fun _=>⟨w.heap.size,by simp[aS],h.turns.size,ar.new _ _ _⟩⟩
end
theorem bn.tail{α:Type}{E:aU α}{w:World}{S:Nat->Prop}{a:Addr}{m:Nat}{x:α}{xs:List α}(hE:E.n=1)(h:bn E w S (some a) (m+1) (x::xs)):bn E w S (some ⟨a.block,a.off+1,none⟩) m xs:=by
 refine⟨by have:=h.1;simpa using this,fun hm=>⟨_,rfl,?_,fun j y hy=> ?_⟩⟩
 ·obtain⟨ad,e,hb,-⟩:=h.2 (by omega)
  cases e;exact hb
 ·obtain⟨ad,e,hb,he⟩:=h.2 (by omega)
  cases e;obtain⟨cs,hr,hi⟩:=he (j+1) y (by simpa using hy);refine⟨cs,hr,fun i v hv=> ?_⟩;have:=hi i v hv;rw[hE] at this⊢;rw[show(⟨a.block,a.off+1,none⟩:Addr)=a.add 1 by rw[Addr.add,if_neg (by omega)],ko,show 1+(j*1+i)=(j+1)*1+i by omega];exact this
def assoc{κ:Type}[DecidableEq κ](y:κ):List (κ×Value)->Option Value
 |[]=>none
 |(k,v)::l=>if k=y then some v else assoc y l
def rz(k:TypeId)[DecidableEq κ](enc:κ->Value)(w:World)(mb:Nat)(pT:List (κ×Value)):Prop:=cY Tryz.prog k enc w mb (fun y=>assoc y pT)
theorem rz.made(k:TypeId)[DecidableEq κ](enc:κ->Value)(w:World):rz k enc (w.alloc (.map #[] 0)) w.heap.size []:=cY.made w Tryz.prog k enc
theorem ll[DecidableEq κ]{ops:Array Oper}{rest:List Oper}{o:Oper}{a:Act}{Q:Exit->Act->World->Prop}(hg:o.guard=none)(m x v:Operand)(t e:TypeId)(hop:o.op=Op.insert t m x v)(hu:Tryz.prog.underlying t=some (.map k e))(K:Keyed Tryz.prog k)(lB:∀x y,enc x=enc y->x=y)(key:κ)(n:FuncId)(nP:Array Value)(h:rz k enc w mb pT)(hm:a.eval m= .map (some mb))(hx:a.eval x=enc key)(hv:a.eval v= .func (.func n) #[] nP)(hkey:∃kl,keyOf Tryz.prog k (enc key)=some kl)(hK:∀w',rz k enc w' mb ((key,.func (.func n) #[] nP)::pT)->w.grownBy w' (some mb)->wpList Tryz.prog ops Q rest (a.put o.dst undef) w'):wpList Tryz.prog ops Q (o::rest) a w:=by
 refine wpList_plain hg fun K' hK'=> ?_;obtain⟨kl,nM⟩:=hkey;obtain⟨w',hrun,r1,r2⟩:=cY.store h K hu lB nM (.func (.func n) #[] nP)
 have r3:rz k enc w' mb ((key,.func (.func n) #[] nP)::pT):=r1.congr fun y=>by
  show(if y=key then some (.func (.func n) #[] nP) else assoc y pT)=if key=y then some (.func (.func n) #[] nP) else assoc y pT
  by_cases hy:y=key
  ·rw[if_pos hy,if_pos hy.symm]
  ·rw[if_neg hy,if_neg (fun h=>hy h.symm)]
 unfold Oper.wp;simp[execOp,hop,hm,hx,hv,hrun,Result.andThen];exact hK' _ _ (hK w' r3 r2)
theorem rz.look[DecidableEq κ]{t e:TypeId}(h:rz k enc w mb pT)(K:Keyed Tryz.prog k)(hu:Tryz.prog.underlying t=some (.map k e))(lB:∀x y,enc x=enc y->x=y){x:κ}{kl:Lit}(hkey:keyOf Tryz.prog k (enc x)=some kl){z:Value}(hz:(zeroValue e).run Tryz.prog w= .ok z w){u:Value}(ha:assoc x pT=some u):
 (Instr.lookup t (.map (some mb)) (enc x) false).run Tryz.prog w= .ok u w:=by
 have:=cY.look h K hu lB hkey hz false;rw[this,ha];rfl
theorem rA{β:Type}(key:ByteArray):∀(l:List (ByteArray×β)) (v:β),M.look key l=some v->(key,v)∈l
 |[],v,h=>by simp[M.look] at h
 |(k,u)::l,v,h=>by
  unfold M.look at h;split at h
  ·rename_i hk
   cases h;rw[iV] at hk;rw[hk];exact List.mem_cons_self
  ·exact List.mem_cons_of_mem _ (rA key l v h)
theorem oO(F:M.Tree->Except Int Int):∀(l:List M.Tree) (kl:List Int),M.ed F l= .ok kl->∀(j:Nat) (t:M.Tree),l[j]? =some t->∃k,F t= .ok k
 |[],kl,h,j,t,hj=>by simp at hj
 |x::l,kl,h,j,t,hj=>by
  unfold M.ed at h;split at h
  ·cases h
  ·next k hk=>
   split at h
   ·cases h
   ·next ks jq=>
    cases j with
    |zero=>simp at hj;subst hj;exact⟨k,hk⟩
    |succ j=>exact oO F l ks jq j t (by simpa using hj)
theorem vM{tn:List ByteArray}{env:List (ByteArray×Int)}{d:Nat}{aN:Bool}{x:M.Node}{ks:List M.Tree}{k:Int}(h:x.op=23)(hk:M.bG tn env (d+1) aN (.mk x ks)= .ok k):
 ∃f,M.look x.text M.fns=some f/\ks.length=f.args.length/\(f.table=true->M.fo tn (M.bl ks).text=true)/\∀(j:Nat) (t:M.Tree),ks[j]? =some t->∃aN k,M.bG tn env d aN t= .ok k:=by
 unfold M.bG at hk;rw[if_pos h] at hk;split at hk
 ·cases hk
 ·next kinds Bd=>
  unfold M.iq at hk;split at hk
  ·cases hk
  ·next f hf=>
   refine⟨f,hf,?_,?_,fun j t hj=> ?_⟩
   ·have h1:=vB _ _ _ Bd
    split at hk
    ·cases hk
    ·next hne=>rw[<-h1];exact congrArg List.length (Classical.not_not.1 hne)
   ·intro ht
    split at hk
    ·cases hk
    ·split at hk
     ·cases hk
     ·split at hk
      ·cases hk
      ·split at hk
       ·cases hk
       ·next hh=>
        cases hq:M.fo tn (M.bl ks).text with
        |true=>rfl
        |false=>exact absurd ⟨ht,hq⟩ hh
   ·obtain⟨k,hk⟩:=oO _ _ _ Bd j t hj
    exact⟨_,k,hk⟩
theorem Uu{ab:Nat}{sv:Value}{a:List M.Val}(hab:ar w ab 255 #[sv])(ho:aD F0 33 w 0 xz sv a)(h1:1<=a.length)(hm:a.length<=1048576)(hv:∀v∈a,iF v):∃ga cp,lC w ab ga a.length cp a:=by
 rcases ho.form with⟨_,e⟩|⟨g,cp,rfl,_,hlt,dC,_⟩
 ·rw[e] at h1;simp at h1
 ·refine⟨g,cp,hab,rfl,fun i v hi=> ?_,hv,hlt⟩
  have hr:=ho.reads (S':=fun b=>b=g) (fun b hb=>hb.elim) (fun b hb=>by simp[Value.ownBlock] at hb;exact hb.symm) hm;obtain⟨A,c,e,aI,hl⟩:=aU.av (E:=F0) hr;injection e with e1 e2 e3;subst e1;have Jt:i<a.length:=(g_ hi).1;obtain⟨ad,y,cs,e4,hb,hy,hr2,hc⟩:=hl.NY Jt;cases e4;rw[hi] at hy;cases hy;obtain⟨rfl,-⟩:=hr2;have c1:=hc 1 _ rfl;have c2:=hc 2 _ rfl;rw[Addr.add_lit,Nat.zero_add] at c1 c2;exact⟨c1,c2⟩
def xE(n:FuncId)(nP:List Nat):Value:= .func (.func n) #[] (nP.map fun b=>Value.pointer (some ⟨b,0,none⟩)).toArray
def V'(pb fb ab:Nat):List (ByteArray×Value):=
 [(M.jah,xE 237 [pb]),(M.Kl,xE 235 [pb,fb,ab]),(M.ni,xE 232 [pb,fb,ab]),(M.qU,xE 231 [pb,fb]),(M.nh,xE 229 [pb,fb]),
  (M.CR,xE 227 [ab]),(M.pG,xE 226 [ab]),(M.Oa,xE 224 [ab]),(M.lS,xE 221 [ab]),(M.CQ,xE 219 [ab]),
  (M.N7,xE 217 [ab]),(M.CP,xE 215 [ab]),(M.uN,xE 213 [ab]),(M.uM,xE 211 [ab]),(M.N4,xE 210 [ab])]
theorem Qd(g pb fb ab:Nat)(Mu S:Nat->Prop)(cx:M.Cx)(st:M.St)(p:PV)(bs:List Nat)(F u:Nat)(name:ByteArray)(x:M.Node)(f:M.Fn)(sv:Value)(a:List M.Val)(w:World)(hf:M.look name M.fns=some f)(hlen:a.length=f.args.length)(xF:f.table=true->M.fo (aG cx.tables) x.text=true)(yQ:ar w pb 58 #[.pointer (some ⟨g,0,none⟩)])(sq:ar w fb 129 #[.int .i64 x.op,.int .i64 x.n,.string x.text,.int .i64 x.num,.string x.path.aN,.int .i64 x.path.aP,.int .i64 x.path.aR,.int .i64 x.path.rep,.int .i64 x.path.comp,.int .i64 x.path.sub])(hgb:ar w g 64 #[.int .u8 (p.d.f.toNat:Int),.int .u8 (p.d.c.toNat:Int),.int .u8 (p.d.r.toNat:Int),.int .u8 (p.d.e.toNat:Int),.int .u8 (p.d.s.toNat:Int),p.v,p.tv,.string p.now,.int .i64 (F:Nat),.int .i64 (u:Nat),p.rv,.bool p.stop,p.sv])(hp:b9 w g Mu S cx st p bs)(hx:x.jd)(hab:ar w ab 255 #[sv])(ho:aD F0 33 w 0 xz sv a)(hv:∀v∈a,iF v):
 ∃LY nP,assoc name (V' pb fb ab)=some (.func (.func LY) #[] nP)/\Enters Tryz.prog LY/\Calls Tryz.prog LY nP w fun e w'=>e=dD (M.nV cx st.m name x a)/\Below w.heap.size w w':=by
 have rB:=rA _ _ _ hf;have hm:a.length<=1048576:=by rw[hlen];have:=(yO hf).1;omega
 obtain⟨m1,-,mx,m3⟩:=hp.mx;have bo:=fun(h1:1<=a.length)=>Uu hab ho h1 hm hv;unfold M.fns at rB;simp only[List.mem_cons,Prod.mk.injEq,List.not_mem_nil,or_false] at rB;rcases rB with⟨rfl,rfl⟩|⟨rfl,rfl⟩|⟨rfl,rfl⟩|⟨rfl,rfl⟩|⟨rfl,rfl⟩|⟨rfl,rfl⟩|⟨rfl,rfl⟩|⟨rfl,rfl⟩|⟨rfl,rfl⟩|⟨rfl,rfl⟩|⟨rfl,rfl⟩|⟨rfl,rfl⟩|⟨rfl,rfl⟩|⟨rfl,rfl⟩|⟨rfl,rfl⟩
 ·obtain⟨ga,cp,hA⟩:=bo (by rw[hlen];decide)
  exact⟨_,_,rfl,fun _ _=>rfl,Uk a ab ga _ cp w hA (by rw[hlen];decide)⟩
 ·obtain⟨ga,cp,hA⟩:=bo (by rw[hlen];decide)
  exact⟨_,_,rfl,fun _ _=>rfl,Ul a ab ga _ cp w hA (by rw[hlen];decide)⟩
 ·obtain⟨ga,cp,hA⟩:=bo (by rw[hlen];decide)
  exact⟨_,_,rfl,fun _ _=>rfl,Um a ab ga _ cp w hA (by rw[hlen];decide)⟩
 ·obtain⟨ga,cp,hA⟩:=bo (by rw[hlen];decide)
  exact⟨_,_,rfl,fun _ _=>rfl,Un a ab ga _ cp w hA (by rw[hlen];decide)⟩
 ·obtain⟨ga,cp,hA⟩:=bo (by rw[hlen];decide)
  exact⟨_,_,rfl,fun _ _=>rfl,Up a ab ga _ cp w hA (by rw[hlen];decide)⟩
 ·obtain⟨ga,cp,hA⟩:=bo (by rw[hlen];decide)
  exact⟨_,_,rfl,fun _ _=>rfl,Uq a ab ga _ cp w hA (by rw[hlen];decide) mx m1 m3⟩
 ·obtain⟨ga,cp,hA⟩:=bo (by rw[hlen];decide)
  exact⟨_,_,rfl,fun _ _=>rfl,Ur a ab ga _ cp w hA (by rw[hlen];decide) mx m1 m3⟩
 ·obtain⟨ga,cp,hA⟩:=bo (by rw[hlen];decide)
  exact⟨_,_,rfl,fun _ _=>rfl,Us a ab ga _ cp w hA (by rw[hlen];decide)⟩
 ·obtain⟨ga,cp,hA⟩:=bo (by rw[hlen];decide)
  exact⟨_,_,rfl,fun _ _=>rfl,Uo a ab ga _ cp w hA (by rw[hlen];decide)⟩
 ·obtain⟨ga,cp,hA⟩:=bo (by rw[hlen];decide)
  exact⟨_,_,rfl,fun _ _=>rfl,PY a ab ga _ cp w hA (by rw[hlen];decide)⟩
 ·exact⟨_,_,rfl,fun _ _=>rfl,PZ g pb fb Mu S cx st p bs F u x w yQ sq hgb hp hx⟩
 ·exact⟨_,_,rfl,fun _ _=>rfl,P0 g pb fb Mu S cx st p bs F u x w yQ sq hgb hp hx⟩
 ·obtain⟨ga,cp,hA⟩:=bo (by rw[hlen];decide)
  exact⟨_,_,rfl,fun _ _=>rfl,P8 g pb fb Mu S cx st p bs F u x a ab ga _ cp w yQ sq hgb hp hx hA (by rw[hlen];decide) (xF rfl)⟩
 ·obtain⟨ga,cp,hA⟩:=bo (by rw[hlen];decide)
  exact⟨_,_,rfl,fun _ _=>rfl,Qa g pb fb Mu S cx st p bs F u x a ab ga _ cp w yQ sq hgb hp hx hA (by rw[hlen];decide) (xF rfl)⟩
 ·exact⟨_,_,rfl,fun _ _=>rfl,Qb g pb fb Mu S cx st p bs F u x w yQ sq hgb hp hx⟩
end Go.Proofs.YtpohlhkgbmdieaaGreatDoor
