/- Part 23 of the proof. -/
import Derived.Test.YtpohlhkgbmdieaaGreatDoorW21
import Derived.Test.YtpohlhkgbmdieaaGreatDoorW22
import Derived.Deep.Cut
import Derived.Deep.DeepCutAuto
set_option linter.unusedVariables false
set_option maxRecDepth 1000000
set_option maxHeartbeats 16000000
namespace Go.Proofs.YtpohlhkgbmdieaaGreatDoor
variable{A:Option Addr}{F K:Nat}{S:Nat->Prop}{c:M.Cx}{d:Nat}{ks:List M.Tree}{m:M.dQ}{scopes:List M.Scope}{u u2:Nat}{vs:List M.Val}{w:World}{x:M.Node}
open Go Go.RowKit Go.BigFrame Go.Maps Go.WideMaps
theorem Qo:(Tryz.prog.info? 33).map (fun i=>(i.zero,i.size,i.bytes))=some (some (.agg #[.int .i64 0,.string ByteArray.empty,.int .i64 0,.bool false]),4,40):=by kernel_rfl
def jaR(d:Nat):Prop:=∀(x:M.Node) (ks:List M.Tree) (g:Nat) (Mu S N:Nat->Prop) (c:M.Cx) (st:M.St) (p:PV) (bs:List Nat) (F u:Nat) (env:List (ByteArray×Int)) (aN:Bool) (k:Int) (A:Option Addr) (cap:Nat) (w:World),
 M.jP (d+1) 3 (.mk x ks)=true->M.mh (.mk x ks)->x.op=23->M.bG (aG c.tables) env (d+1) aN (.mk x ks)= .ok k->b9 w g Mu S c st p bs->ar w g 64 #[.int .u8 (p.d.f.toNat:Int),.int .u8 (p.d.c.toNat:Int),.int .u8 (p.d.r.toNat:Int),.int .u8 (p.d.e.toNat:Int),.int .u8 (p.d.s.toNat:Int),p.v,p.tv,.string p.now,.int .i64 (F:Nat),.int .i64 (u:Nat),p.rv,.bool p.stop,p.sv]->F<=2000->u<=F->(∀b,N b->b<w.heap.size/\b≠g)->bX A (M.flat (.mk x ks)).length cap->bn ENode w N A (M.flat (.mk x ks)).length (M.flat (.mk x ks))->
 Calls Tryz.prog 166 #[.pointer (some ⟨g,0,none⟩),.slice A (M.flat (.mk x ks)).length cap] w (ExP w g p F (M.cut F u (M.jo c st.m st.scopes d x ks)))
theorem kC(s:ByteArray)(l:List UInt8):(s.toList==l)=M.bJ s (M.T l):=by simp[M.bJ,M.T,ByteArray.toList_eq]
theorem Me{tn:List ByteArray}{env:List (ByteArray×Int)}{aN:Bool}{k:Int}(h:x.op=23)(hk:M.bG tn env (d+1) aN (.mk x ks)= .ok k)(hs:M.fO x.text=true):1<=ks.length:=by
 obtain⟨f,hf,hl,_⟩:=vM h hk;have rB:=rA _ _ _ hf;generalize x.text=name at*;unfold M.fns at rB;simp only[List.mem_cons,Prod.mk.injEq,List.not_mem_nil,or_false] at rB;rcases rB with⟨rfl,rfl⟩|⟨rfl,rfl⟩|⟨rfl,rfl⟩|⟨rfl,rfl⟩|⟨rfl,rfl⟩|⟨rfl,rfl⟩|⟨rfl,rfl⟩|⟨rfl,rfl⟩|⟨rfl,rfl⟩|⟨rfl,rfl⟩|⟨rfl,rfl⟩|⟨rfl,rfl⟩|⟨rfl,rfl⟩|⟨rfl,rfl⟩|⟨rfl,rfl⟩
 all_goals first
  |(rw[hl];decide)
  |(exfalso;revert hs;decide)
theorem Uz{l:List M.Tree}{t:M.Tree}{e:Int}(jg:M.cz (M.aL c m scopes d) (if M.fO x.text=true then ks.tail else ks)=M.pre vs K (M.cz (M.aL c m scopes d) (t::l)))(h:M.cut F (u+K) (M.aL c m scopes d t)=(.error e,u2)):M.cut F u (M.jo c m scopes d x ks)=(.error e,u2):=by
 cases hr:M.aL c m scopes d t with
 |mk r kk=>
  rw[hr] at h;by_cases hq:u+K+kk<=F
  ·rw[M.bZ hq] at h
   injection h with h1 h2;simp only at h1 h2;subst h1
   have hv:M.jo c m scopes d x ks=(.error e,K+kk):=by
    unfold M.jo;rw[jg,M.Jy hr]
   rw[hv,M.bZ (by show u+(K+kk)<=F;omega)];simp only[Prod.mk.injEq,true_and];omega
  ·rw[M.eQ hq] at h
   injection h with h1 h2;have h3:=M.Ps (vs:=vs) (K:=K) (l:=l) hr;rw[<-jg,<-M.TV] at h3;rw[M.eQ (by omega),<-h2];cases h1;rfl
theorem UA{r:Except Int M.Val×Nat}{v:M.Val}(h:M.cut F (u+K) r=(.ok v,u2)):∃kk,r=(.ok v,kk)/\u2=u+(K+kk)/\u+(K+kk)<=F:=by
 obtain⟨r,kk⟩:=r;by_cases hq:u+K+kk<=F
 ·rw[M.bZ hq] at h
  injection h with h1 h2;simp only at h1 h2;exact⟨kk,by rw[h1],by omega,by omega⟩
 ·rw[M.eQ hq] at h
  injection h with h1 h2;cases h1
theorem Mf{a0:List M.Val}(jg:M.cz (M.aL c m scopes d) (if M.fO x.text=true then ks.tail else ks)=(.ok vs,K))(h0:a0=if M.fO x.text=true then[M.cW] else[]):M.jo c m scopes d x ks=(M.nV c m x.text (M.bl ks) (a0++vs),K):=by
 unfold M.jo;rw[jg,h0];simp only;split<;>rfl
theorem Qp:iF M.cW:=⟨by decide,by decide,by decide⟩
theorem Qq(h:bn jB w S A ks.length (ks.map M.flat)):(M.bl ks).jd:=by
 cases ks with
 |nil=>refine⟨?_,?_,by decide,?_,by decide,?_,?_,?_,?_,?_⟩<;>exact⟨by decide,by decide⟩
 |cons t tl=>
  obtain⟨x0,ZT⟩:=t;obtain⟨a1,y1,u1,rfl,ib,fI,hr1,hc1⟩:=h.in1 (k:=0) rfl (by simp);simp at fI;subst fI;obtain⟨At,ct,rfl,fE,dF⟩:=aU.av (E:=ENode) hr1;rw[show M.flat (.mk x0 ZT)=x0::M.bB ZT by unfold M.flat;rfl] at dF;obtain⟨nw,rfl,jaS,hx0,e00,Qr⟩:=dy dF;exact hx0
theorem UB(d:Nat)(hex:Qc d)(JE:Hu d):jaR d:=by
 intro x ks g Mu S N c st p bs F u env aN kq A cap w hT bf hop Ef hp hgb hF hu hN aI hl;have hm:=aI.le;obtain⟨dM,fj,fk⟩:=cU hT;have kf:M.flat (.mk x ks)=x::M.bB ks:=by unfold M.flat;rfl
 have Bf:=q_ bf;have nk:=q_ aI;have HL:=q_ hl;have HT:=q_ hT;have HP:=q_ hp;have HG:=q_ (show g<w.heap.size from hgb.lt);have Ma:=q_ hgb;have HN:=q_ hN;have mq:=q_ hop;have hl0:=hl;rw[kf] at hl0;obtain⟨ad,rfl,yx,kE,e0,he⟩:=dy hl0;have yF:x.text.size<=1048576:=kE.2.2.1;have UC:=q_ kE;have sT:=M.eC (.mk x ks)
 have UD:ks.length<=1048576:=by
  have h1:=M.dx ks;have h2:(M.flat (.mk x ks)).length=(M.bB ks).length+1:=by rw[kf];rfl
  omega
 have iX:=q_ (show M.pz ks by unfold M.mh at bf;exact bf.2);have E2:=q_ (he 1 _ rfl);have UE:=q_ (show ad.block<w.heap.size/\ad.block≠g from hN _ yx);have Eg:=q_ Ef;generalize Jo:(M.flat (.mk x ks)).length=m at*;obtain⟨w1,bu⟩:∃w1,w1=(w.alloc (.cells #[.pointer (some ⟨g,0,none⟩)] 58)).alloc (.cells #[.int .i64 0,.string ⟨#[]⟩,.int .i64 0,.bool false] 33):=⟨_,rfl⟩
 have s0:(w.alloc (.cells #[.pointer (some ⟨g,0,none⟩)] 58)).heap.size=w.heap.size+1:=by simp
 have s1:w1.heap.size=w.heap.size+2:=by rw[bu];simp
 have ZU:=q_ (show ar w1 w.heap.size 58 #[.pointer (some ⟨g,0,none⟩)] from bu▸(ar.new w _ _).alloc _);have RB1:=q_ (show ar w1 (w.heap.size+1) 33 #[.int .i64 0,.string ⟨#[]⟩,.int .i64 0,.bool false] from bu▸s0▸ar.new _ _ _);have B1:=q_ (show Below w.heap.size w w1 from bu▸((Below.refl _ w).alloc (n_) _).alloc (by omega) _);have KP:=q_ (fh x ks Bf.o (some ad) m cap N w1 (fun b h=>l_ (HN.o b h).1 B1.o.size) nk.o (HL.o.below B1.o (fun b h=>(HN.o b h).1)));have tC:=bu.symm;clear bu hl0 hl hN hgb hp bf aI hT kf dM fj fk Ef he e0 kE hop s0;go_enter Tryz.func166,Tryz.ntmps166;go_wp2_with fail;refine KP.o.mono ?_;rintro e w3 ⟨A1,c1,A2,c2,rfl,kY,hk2,dF,hl2,hb3⟩;have P1:=q_ dF;have fS:=q_ kY;have B3:=q_ (B1.o.trans (hb3.mono B1.o.size));have PB3:=q_ (ZU.o.below hb3 ZU.o.lt);have RB3:=q_ (RB1.o.below hb3 RB1.o.lt);have hs3:=hb3.size;have SW:=q_ (show∀b,(N b\/New w1 w3 b)->b<w3.heap.size/\b≠g from fun b h=>h.elim (fun h=>⟨l_ (HN.o b h).1 B3.o.size,(HN.o b h).2⟩) (fun h=>⟨h.2,by have:=HG.o;have:=h.1;omega⟩))
 clear kY hk2 dF hl2 hb3 tC KP;have dC:ks.length<=c1:=by simpa using fS.o.2.1
 generalize hn:ks.length=n0 at*;have UF:=q_ hn;clear hn;have s4:(w3.alloc (.cells #[.slice none 0 0] 255)).heap.size=w3.heap.size+1:=by simp
 have AB4:=q_ ((ar.new w3 255 #[.slice none 0 0]).alloc (.cells #[.int .i64 0,.int .i64 0,.string ⟨#[]⟩,.int .i64 0,.string ⟨#[]⟩,.int .i64 0,.int .i64 0,.int .i64 0,.int .i64 0,.int .i64 0] 129));have FB4:=q_ (s4▸ar.new (w3.alloc (.cells #[.slice none 0 0] 255)) 129 #[.int .i64 0,.int .i64 0,.string ⟨#[]⟩,.int .i64 0,.string ⟨#[]⟩,.int .i64 0,.int .i64 0,.int .i64 0,.int .i64 0,.int .i64 0]);have B4:=q_ (((Below.refl _ w3).alloc (n_) (.cells #[.slice none 0 0] 255)).alloc (by omega) (.cells #[.int .i64 0,.int .i64 0,.string ⟨#[]⟩,.int .i64 0,.string ⟨#[]⟩,.int .i64 0,.int .i64 0,.int .i64 0,.int .i64 0,.int .i64 0] 129));have s5:((w3.alloc (.cells #[.slice none 0 0] 255)).alloc (.cells #[.int .i64 0,.int .i64 0,.string ⟨#[]⟩,.int .i64 0,.string ⟨#[]⟩,.int .i64 0,.int .i64 0,.int .i64 0,.int .i64 0,.int .i64 0] 129)).heap.size=w3.heap.size+2:=by simp
 clear s4;go_upto_if 20 with fail;generalize (w3.alloc (.cells #[.slice none 0 0] 255)).alloc (.cells #[.int .i64 0,.int .i64 0,.string ⟨#[]⟩,.int .i64 0,.string ⟨#[]⟩,.int .i64 0,.int .i64 0,.int .i64 0,.int .i64 0,.int .i64 0] 129)=w4 at AB4 FB4 B4 s5⊢;have S5:=q_ s5;clear s5;go_cut [] (fun wx=>Below w3.heap.size w3 wx/\w3.heap.size+2<=wx.heap.size/\(∃sv,ar wx w3.heap.size 255 #[sv]/\aD F0 33 wx 0 xz sv []/\∀b,sv.ownBlock=some b->w3.heap.size+2<=b)/\ar wx (w3.heap.size+1) 129 #[.int .i64 (M.bl ks).op,.int .i64 (M.bl ks).n,.string (M.bl ks).text,.int .i64 (M.bl ks).num,.string (M.bl ks).path.aN,.int .i64 (M.bl ks).path.aP,.int .i64 (M.bl ks).path.aR,.int .i64 (M.bl ks).path.rep,.int .i64 (M.bl ks).path.comp,.int .i64 (M.bl ks).path.sub])
 case first=>
  cases jq:ks with
  |nil=>
   subst jq;have Eh:n0=0:=UF.o.symm;subst Eh;go_wp2_with fail;go_meet;exact⟨B4.o,by have:=S5.o;omega,⟨_,AB4.o,aD.nil (fun _ h=>h.elim),fun b h=>by simp[Value.ownBlock] at h⟩,FB4.o⟩
  |cons t0 tl=>
   subst jq;obtain⟨x0,ZT⟩:=t0;obtain⟨a1,y1,u1,rfl,ib,fI,hr1,hc1⟩:=P1.o.in1 (k:=0) rfl (by have:=UF.o;simp at this;omega);rw[iU] at hc1;simp at fI;subst fI;obtain⟨At,ct,rfl,fE,di⟩:=aU.av (E:=ENode) hr1;have dF:=di;rw[show M.flat (.mk x0 ZT)=x0::M.bB ZT by unfold M.flat;rfl] at dF;obtain⟨nw,rfl,jaS,hx0,e00,Qr⟩:=dy dF;have K:=fun(p:Addr) (h:p.block<w3.heap.size)=>B4.o.cell (p:=p) h;have h1:=(SW.o _ ib).1;have h0:=(SW.o _ jaS).1;have d0:=(K a1 h1).trans hc1;have e0:=(K nw h0).trans e00;have e1:=(K ⟨nw.block,nw.off+1,none⟩ h0).trans (Qr 0 _ rfl);have e2:=(K ⟨nw.block,nw.off+2,none⟩ h0).trans (Qr 1 _ rfl);have e3:=(K ⟨nw.block,nw.off+3,none⟩ h0).trans (Qr 2 _ rfl);have e4:=(K ⟨nw.block,nw.off+4,none⟩ h0).trans (Qr 3 _ rfl);have e5:=(K ⟨nw.block,nw.off+5,none⟩ h0).trans (Qr 4 _ rfl);have e6:=(K ⟨nw.block,nw.off+6,none⟩ h0).trans (Qr 5 _ rfl);have e7:=(K ⟨nw.block,nw.off+7,none⟩ h0).trans (Qr 6 _ rfl);have e8:=(K ⟨nw.block,nw.off+8,none⟩ h0).trans (Qr 7 _ rfl);have e9:=(K ⟨nw.block,nw.off+9,none⟩ h0).trans (Qr 8 _ rfl);have hp0:=M.eC (.mk x0 ZT);clear dF di hr1 e00 Qr K hc1
   have Eh:0<n0:=by have:=UF.o;simp at this;omega
   have q1:decide (0<n0)=true:=by simp;omega
   go_wp2_with (refine ah (cs':=#[.int .i64 x0.op,.int .i64 x0.n,.string x0.text,.int .i64 x0.num,.string x0.path.aN,.int .i64 x0.path.aP,.int .i64 x0.path.aR,.int .i64 x0.path.rep,.int .i64 x0.path.comp,.int .i64 x0.path.sub]) rfl 129 (.tmp 8) (.tmp 25) rfl (w3.heap.size+1) (by rfl) (by rfl) FB4.o rfl (by kernel_rfl) (by simp[Value.oneCell']) ?_;intro w5 k5 g5;have K5:=q_ k5;have G5:=q_ g5;clear k5 g5);go_meet;exact⟨ai B4.o G5.o (by omega),by have:=S5.o;have:=G5.o.size;omega,⟨_,AB4.o.aK G5.o (by omega),aD.nil (fun _ h=>h.elim),fun b h=>by simp[Value.ownBlock] at h⟩,K5.o⟩
 case rest=>
  obtain⟨cT,hs5,⟨sv0,jaT,jaU,Wd⟩,jaV⟩:=hcut;have SK:=q_ jaU;have Mg:=q_ Wd;clear jaU Wd;have B5:=q_ cT;have ZV:=q_ jaT;have FB5:=q_ jaV;have S5':=q_ hs5;clear cT hs5 jaT jaV AB4 FB4 B4 S5;have hx2:wc.cell? ⟨ad.block,ad.off+2,none⟩=some (.string x.text):=((B3.o.trans (B5.o.mono B3.o.size)).cell (p:=⟨ad.block,ad.off+2,none⟩) UE.o.1).trans E2.o;have jaW:M.fO x.text=true->1<=ks.length:=fun h=>Me mq.o Eg.o h;have t1:=kC x.text [101,120,105,115,116,115];have t2:=kC x.text [99,111,117,110,116];have t3:=kC x.text [108,111,111,107,117,112];have t4:=kC x.text [104,97,115];have HSK:=q_ (show M.fO x.text=(M.bJ x.text (M.T [101,120,105,115,116,115])||M.bJ x.text (M.T [99,111,117,110,116])||M.bJ x.text (M.T [108,111,111,107,117,112])||M.bJ x.text (M.T [104,97,115])) from rfl);have Yc:=q_ jaW;clear jaW;generalize M.bJ x.text (M.T [101,120,105,115,116,115])=b1 at*;generalize M.bJ x.text (M.T [99,111,117,110,116])=b2 at*;generalize M.bJ x.text (M.T [108,111,111,107,117,112])=b3 at*;generalize M.bJ x.text (M.T [104,97,115])=b4 at*
  obtain⟨R,hR⟩:∃R,R=if M.fO x.text=true then ks.tail else ks:=⟨_,rfl⟩
  obtain⟨a0,ha0⟩:∃a0,a0=if M.fO x.text=true then[M.cW] else[]:=⟨_,rfl⟩
  have HR:=q_ hR;have HA0:=q_ ha0;clear hR ha0;rename_i aC;refine aC _ _ ?_;clear aC;refine wp_seq_k fun K hK=> ?_;obtain⟨itV,jaX,hzV,hsV,hbV⟩:=info_parts Qo;have J1:=q_ jaX;have J2:=q_ hzV;have J3:=q_ hsV;have J4:=q_ hbV;clear jaX hzV hsV hbV
  go_cut [5] (fun y wx=>∃(A5:Option Addr) (c5:Nat) (sv:Value),y= .slice A5 R.length c5/\R.length<=c5/\bn jB w3 (fun b=>N b\/New w1 w3 b) A5 R.length (R.map M.flat)/\ar wx w3.heap.size 255 #[sv]/\aD F0 33 wx 0 xz sv a0/\
   ar wx (w3.heap.size+1) 129 #[.int .i64 (M.bl ks).op,.int .i64 (M.bl ks).n,.string (M.bl ks).text,.int .i64 (M.bl ks).num,.string (M.bl ks).path.aN,.int .i64 (M.bl ks).path.aP,.int .i64 (M.bl ks).path.aR,.int .i64 (M.bl ks).path.rep,.int .i64 (M.bl ks).path.comp,.int .i64 (M.bl ks).path.sub]/\Below w3.heap.size w3 wx/\w3.heap.size+2<=wx.heap.size/\∀b,sv.ownBlock=some b->w3.heap.size+2<=b)
  case first=>
   rcases(show b1=true\/(b1=false/\b2=true)\/(b1=false/\b2=false/\b3=true)\/(b1=false/\b2=false/\b3=false/\b4=true)\/(b1=false/\b2=false/\b3=false/\b4=false) by cases b1<;>cases b2<;>cases b3<;>cases b4<;>simp) with rfl|⟨rfl,rfl⟩|⟨rfl,rfl,rfl⟩|⟨rfl,rfl,rfl,rfl⟩|⟨rfl,rfl,rfl,rfl⟩
   rotate_left 4
   ·skip
    have H5:=q_ (show¬M.fO x.text=true by rw[HSK.o];decide);have hRk:R=ks:=by rw[HR.o,if_neg H5.o]
    have ZW:R.length=n0:=by rw[hRk];exact UF.o
    have We:a0=[]:=by rw[HA0.o,if_neg H5.o]
    have PT:=q_ (show bn jB w3 (fun b=>N b\/New w1 w3 b) A1 R.length (R.map M.flat) by rw[ZW,hRk];exact P1.o);have UG:=q_ ZW;have HT0:=q_ We;clear HSK hRk ZW We;go_wp2_with fail;go_meet;exact⟨_,_,_,by rw[UG.o],by rw[UG.o];exact dC,PT.o,ZV.o,by rw[HT0.o];exact SK.o,FB5.o,B5.o,S5'.o,Mg.o⟩
   all_goals
    have H5:=q_ (show M.fO x.text=true by rw[HSK.o];rfl);clear HSK
    obtain⟨t0,tl,jq⟩:∃t0 tl,ks=t0::tl:=by
     cases hq:ks with
     |nil=>have:=Yc.o H5.o;rw[hq] at this;simp at this
     |cons t0 tl=>exact⟨_,_,rfl⟩
    have hRt:R=tl:=by rw[HR.o,if_pos H5.o,jq];rfl
    have ZW:R.length=n0-1:=by have:=UF.o;rw[jq] at this;rw[hRt,<-this];rfl
    have We:a0=[M.cW]:=by rw[HA0.o,if_pos H5.o]
    have uH:1<=n0:=by have:=Yc.o H5.o;have:=UF.o;omega
    obtain⟨a1,ha1⟩:∃a1,A1=some a1:=by
     obtain⟨ad,e,_⟩:=P1.o.2 (by omega);exact⟨ad,e⟩
    subst ha1
    have PT:=q_ (show bn jB w3 (fun b=>N b\/New w1 w3 b) (some ⟨a1.block,a1.off+1,none⟩) R.length (R.map M.flat) from by
     have h:=P1.o;rw[jq,List.map_cons,show n0=R.length+1 by omega] at h;rw[hRt] at h⊢;exact h.tail rfl)
    have HT0:=q_ (show a0=[]++[M.cW] by rw[We];rfl);have UG:=q_ ZW;clear hRt jq We ZW;have za:=ZV.o.cell;have AB6:=q_ (ZV.o.alloc (.cells #[.int .i64 0,.string ⟨#[]⟩,.int .i64 0,.bool false] 33));have FB6:=q_ (FB5.o.alloc (.cells #[.int .i64 0,.string ⟨#[]⟩,.int .i64 0,.bool false] 33));have OW6:=q_ (SK.o.alloc (.cells #[.int .i64 0,.string ⟨#[]⟩,.int .i64 0,.bool false] 33));have NB6:=q_ (ar.new wc 33 #[.int .i64 0,.string ⟨#[]⟩,.int .i64 0,.bool false]);have B6:=q_ (B5.o.alloc B5.o.size (.cells #[.int .i64 0,.string ⟨#[]⟩,.int .i64 0,.bool false] 33));have s6:(wc.alloc (.cells #[.int .i64 0,.string ⟨#[]⟩,.int .i64 0,.bool false] 33)).heap.size=wc.heap.size+1:=by simp
    have S6:=q_ s6;clear s6;by_cases hc:c1=1;subst hc;obtain rfl:n0=1:=by omega
    all_goals
     have jcP:True:=trivial
     go_wp2_with (first
      |(refine ay rfl (.tmp 35) (.tmp 37) _ rfl itV _ 40 Tryz.underlying255 J1.o J2.o J3.o J4.o rfl rfl OW6.o ⟨wc.heap.size,0,none⟩ 1 1 [M.cW] rfl rfl (fw NB6.o ⟨rfl,by decide⟩) (by simp) (by omega) (by omega) ?_
        intro o7 w7 Wh _ FE SM;have OW7:=q_ Wh;have AB7:=q_ (AB6.o.grown FE (fun e=>by have:=Mg.o _ e.symm;omega));have FB7:=q_ (FB6.o.grown FE (fun e=>by have:=Mg.o _ e.symm;omega));have B7:=q_ (B6.o.grown FE B6.o.size (fun k e=>by have:=Mg.o _ e;omega))
        have Yd:=q_ (show∀b,o7.ownBlock=some b->w3.heap.size+2<=b from fun b e=>by
         rcases SM with h|h
         ·exact Mg.o b (h.symm.trans e)
         ·rw[h] at e;injection e with e;have:=S6.o;have:=S5'.o;omega)
        have G7:=q_ FE.size;clear Wh FE SM;obtain⟨A7,c7,e7⟩:=OW7.o.shape;subst e7;have z7:=AB7.o.cell;have f7:=AB7.o.frozen)
      |fail)
     go_meet;have AB8:=AB7.o.one_set (.slice A7 1 c7);have g8:=aV w7 w3.heap.size 0 (.slice A7 1 c7);have OW8:=OW7.o.aK g8 (fun e=>by have:=Yd.o _ e;omega) (fun h=>h);have FB8:=FB7.o.aK g8 (by omega);have B8:=ai B7.o g8 (n_);have Ye:aD F0 33 (w7.setCell ⟨w3.heap.size,0,none⟩ (.slice A7 1 c7)) 0 xz (.slice A7 1 c7) a0:=by rw[HT0.o];exact OW8
     first
     |exact⟨_,_,_,by rw[UG.o],by rw[UG.o];exact n_,by rw[UG.o];exact⟨by simp[UG.o],fun h=>absurd h (Nat.lt_irrefl 0)⟩,AB8,Ye,FB8,B8,by have:=g8.size;have:=G7.o;have:=S6.o;have:=S5'.o;omega,Yd.o⟩
     |exact⟨_,_,_,by rw[UG.o],by rw[UG.o];omega,PT.o,AB8,Ye,FB8,B8,by have:=g8.size;have:=G7.o;have:=S6.o;have:=S5'.o;omega,Yd.o⟩
  case rest=>
   obtain⟨A5,c5,sv5,rfl,V4,Wi,hab,how,sq,dw,jL,Qs⟩:=hcut;have PL:=q_ Wi;have AB6:=q_ hab;have OW6:=q_ how;have FB6:=q_ sq;have B6:=q_ dw;have S6:=q_ jL;have jcc:=q_ Qs;have HX0:=q_ (show(M.bl ks).jd from Qq (by rw[UF.o];exact P1.o));obtain⟨f,hf,kf,iR,om⟩:=vM mq.o Eg.o;have HF:=q_ hf;have SC:=q_ kf;have pX:=q_ iR
   have Yf:=q_ (show∀(j:Nat) (t:M.Tree),R[j]? =some t->M.jP d 3 t=true/\M.mh t/\∃aN k,M.bG (aG c.tables) env d aN t= .ok k from fun j t hj=>by
    have hw:∀i,M.wanted x i=3:=fun i=>by unfold M.wanted;rw[mq.o,if_neg (by omega),if_neg (by omega)]
    rw[HR.o] at hj;split at hj
    ·have py:ks[j+1]? =some t:=by cases hq:ks with|nil=>rw[hq] at hj;simp at hj|cons a b=>rw[hq] at hj;simpa using hj
     exact⟨by have:=cF (i:=j+1) (t:=t) HT.o py;rwa [hw] at this,M.cw (k:=j+1) iX.o py,om (j+1) t py⟩
    ·exact⟨by have:=cF (i:=j) (t:=t) HT.o hj;rwa [hw] at this,M.cw (k:=j) iX.o hj,om j t hj⟩)
   have Qt:=q_ (show a0.length+R.length=ks.length by
    rw[HA0.o,HR.o];split
    ·rename_i h1
     have:=Yc.o h1;cases hq:ks with
     |nil=>rw[hq] at this;simp at this
     |cons a b=>simp;omega
    ·simp)
   have HV0:=q_ (show∀v∈a0,iF v by
    rw[HA0.o];split
    ·intro v hv;simp at hv;rw[hv];exact Qp
    ·intro v hv;cases hv)
   have jcd:=q_ (show R.length<=1048576 by have:=Qt.o;have:=UF.o;omega);clear Wi hab how sq dw jL Qs hf kf iR om hx2 t1 t2 t3 t4 B5 ZV SK Mg FB5 S5' HSK;go_wp2_with fail
   go_loopw [43] (fun y wr=>∃(k K:Nat) (vs:List M.Val) (sv:Value),k<=R.length/\y= .int .i64 k/\u+K<=F/\aW g w3 wr/\w3.heap.size+2<=wr.heap.size/\ar wr w3.heap.size 255 #[sv]/\aD F0 33 wr 0 xz sv (a0++vs)/\(∀b,sv.ownBlock=some b->w3.heap.size+2<=b)/\ar wr (w3.heap.size+1) 129 #[.int .i64 (M.bl ks).op,.int .i64 (M.bl ks).n,.string (M.bl ks).text,.int .i64 (M.bl ks).num,.string (M.bl ks).path.aN,.int .i64 (M.bl ks).path.aP,.int .i64 (M.bl ks).path.aR,.int .i64 (M.bl ks).path.rep,.int .i64 (M.bl ks).path.comp,.int .i64 (M.bl ks).path.sub]/\ar wr g 64 (p.cells F (u+K))/\vs.length=k/\(∀v∈a0++vs,iF v)/\
    M.cz (M.aL c st.m st.scopes d) R=M.pre vs K (M.cz (M.aL c st.m st.scopes d) (R.drop k))) (fun y _=>R.length-(intOf y).toNat)
   case atStart=>exact⟨0,0,[],sv5,by omega,rfl,by omega,ax.of B6.o,S6.o,AB6.o,by rw[List.append_nil];exact OW6.o,jcc.o,FB6.o,(Ma.o.below B3.o Ma.o.lt).below B6.o (l_ HG.o B3.o.size),rfl,by rw[List.append_nil];exact HV0.o,by rw[List.drop_zero,M.pre_nil]⟩
   case round=>
    obtain⟨k,K,vs,sv,hk,rfl,ZX,Qu,hsz,hab,how,Qs,sq,hgb,hvl,jaY,jg⟩:=hrel;have OGR:=q_ Qu;have SZR:=q_ hsz;have ZY:=q_ hab;have OWR:=q_ how;have Mh:=q_ Qs;have FBR:=q_ sq;have Nw:=q_ hgb;have HVL:=q_ hvl;have jaZ:=q_ jaY;have Mi:=q_ jg;have OGW:=q_ (show aW g w wr from(show aW g w w3 from ax.of B3.o).tr Qu);have Wj:=q_ (HP.o.only OGW.o);have PBR:=q_ (Qu.blk PB3.o (by have:=HG.o;omega));have PLR:=q_ (Qu.nu PL.o SW.o);have SWR:=q_ (show∀b,(N b\/New w1 w3 b)->b<wr.heap.size/\b≠g from fun b h=>⟨l_ (SW.o b h).1 Qu.size,(SW.o b h).2⟩);have Yg:=q_ (show g<w3.heap.size from l_ HG.o B3.o.size);clear Qu hsz hab how Qs sq hgb hvl jaY jg;by_cases hlt:k<R.length
    ·have q1:decide ((k:Int)<(R.length:Int))=true:=by simp;omega
     obtain⟨t,dY⟩:∃t,R[k]? =some t:=⟨_,e_ hlt⟩
     obtain⟨b1,y1,u1,xH,ib,fI,hr1,jf⟩:=PLR.o.in1 (k:=k) rfl (by omega);subst xH;simp[dY] at fI;subst fI;obtain⟨At,ct,rfl,fE,di⟩:=aU.av (E:=ENode) hr1;obtain⟨XQ,Cq,jce,k2,Qv⟩:=Yf.o k t dY;have EX:=q_ (fun(W:World) (hW:aW g wr W) (hb:ar W g 64 (p.cells F (u+K)))=>hex t g Mu S (fun b=>N b\/New w1 w3 b) c st p bs F (u+K) env jce k2 At ct W XQ Cq Qv (Wj.o.only hW) hb hF ZX (fun b h=>⟨l_ (SWR.o b h).1 hW.size,(SWR.o b h).2⟩) fE (hW.nu di SWR.o))
     have Mj:=q_ (show M.cz (M.aL c st.m st.scopes d) (if M.fO x.text=true then ks.tail else ks)=M.pre vs K (M.cz (M.aL c st.m st.scopes d) (t::R.drop (k+1))) by
      obtain⟨h1,rfl⟩:=g_ dY;rw[<-HR.o,Mi.o,List.drop_eq_getElem_cons h1])
     have HT1:=q_ XQ;clear hr1 di XQ Cq Qv dY fE;cases kG:M.cut F (u+K) (M.aL c st.m st.scopes d t) with
     |mk res u2=>
     rw[kG] at EX;cases res with
     |error er=>
      have gR:=q_ (Uz Mj.o kG);clear kG;go_wp2_with fail;refine ak (KP:=fun ch w5=>dt er= .panicked ch/\aW g wr w5/\ar w5 g 64 (p.cells F u2)) 5 [] (cN wr 3) (by kernel_rfl) (by kernel_rfl) (cN.start wr 3) (fun ch a2 w5 hd hk=>⟨hd,OGW.o.tr hk.2.1,by rw[gR.o];exact hk.2.2,by rw[gR.o];exact hk.1.symm⟩) ?_
      iterate 3
       apply ae rfl
       ·intro L vs wx hI hR hL K hK
        first
        |have c0:=(ZY.o.below hI.below ZY.o.lt).cell
         go_simp;exact hK _ (hI.pure (by decide))
        |have c0:=(PBR.o.below hI.below PBR.o.lt).cell
         go_simp;exact hK _ (hI.pure (by decide))
       intro KK af;go_simp;refine af _ ?_;clear af KK
      refine ae (v:=undef) rfl ?_ ?_
      ·intro L vs wx hI hR hL K hK
       go_simp;exact(EX.o wx (ax.of hI.below) (Nw.o.below hI.below Nw.o.lt)).mono fun e w' ⟨h1,h2,h3⟩=> .inr ⟨_,h3,rfl,(show aW g wr wx from ax.of hI.below).tr h1,h2⟩
      intro KK af;go_simp;refine af _ ?_;clear af KK;refine ae (v:=undef) rfl (fun L vs wx hI hR=>absurd (hR 3 (by kernel_rfl)) (by rw[hI.no];simp)) ?_;intro KK af;refine af _ ?_;clear af KK;refine aw ?_;intro vs w5 hI;exact absurd hI.no (by decide)
     |ok v=>
      obtain⟨kk,iR,nv,hle⟩:=UA kG;have Yh:=q_ (JE t c st v kk HT1.o HP.o.vals HP.o.jU HP.o.fT HP.o.aH iR);have cu:=q_ (Mj.o.trans (M.Pr iR));have SN:=q_ nv;clear kG iR;go_wp2_with fail;refine ak (KP:=fun _ _=>False) 5 [4] (GI wr g p F (u+K) u2 v) (by kernel_rfl) (by kernel_rfl) (GI.start Nw.o) (fun ch a2 w5 hd hk=>hk.elim) ?_
      iterate 3
       apply ae rfl
       ·intro L vs wx hI hR hL K hK
        first
        |have c0:=(hI.turns.blk ZY.o (by have:=Yg.o;omega)).cell
         go_simp;exact hK _ (hI.pure (by decide) (by decide))
        |have c0:=(hI.turns.blk PBR.o (by have:=HG.o;omega)).cell
         go_simp;exact hK _ (hI.pure (by decide) (by decide))
       intro KK af;go_simp;refine af _ ?_;clear af KK
      refine ae (v:=eh v) rfl ?_ ?_
      ·intro L vs wx hI hR hL K hK
       go_simp;exact(EX.o wx hI.turns (by have:=hI.blk;rwa [if_neg (by rw[hL];decide)] at this)).mono fun e w' ⟨h1,h2,h3⟩=>⟨_,h3,hK _ (hI.call (l_ Yg.o OGR.o.size) h1 h2)⟩
      intro KK af;go_simp;refine af _ ?_;clear af KK;refine bc rfl ?_ ?_
      ·intro L vs wx hI hR hL K hK
       unfold eh;go_simp;exact hK _ _ hI.make
      intro KK af;go_simp;refine af _ ?_;clear af KK;refine aw ?_;intro vs5 w5 hI;obtain⟨q,hq,jcf,hkq⟩:=hI.one (by decide);have T5:=q_ hI.turns;have G5:=q_ (show ar w5 g 64 (p.cells F u2) from hI.blk);have KQ:=q_ hkq;have SK:=q_ (hI.turns.own OWR.o (fun e=>by have:=Mh.o _ e;have:=Yg.o;omega));have ZV:=q_ (hI.turns.blk ZY.o (by have:=Yg.o;omega));have FB5:=q_ (hI.turns.blk FBR.o (by have:=Yg.o;omega));have hs5:=hI.turns.size;intro KK af;have kg:=fun a w h=>af .normal a w h;clear af;rw[hq];clear hI hq hkq jcf;simp only[List.drop_succ_cons];have hl0:(a0++vs).length<=1048576:=by rw[List.length_append];have:=Qt.o;have:=UF.o;have:=HVL.o;omega
      refine ay rfl (.tmp 47) (.tmp 51) _ rfl itV _ 40 Tryz.underlying255 J1.o J2.o J3.o J4.o rfl rfl SK.o ⟨q,0,none⟩ 1 1 [v] rfl rfl (fw KQ.o ⟨rfl,Yh.o.text⟩) (by omega) (by omega) (by omega) ?_;intro o6 w6 jt _ oH ho6;have ja0:=q_ jt;have Yi:=q_ (ZV.o.grown oH (fun e=>by have:=Mh.o _ e.symm;omega));have jcg:=q_ (FB5.o.grown oH (fun e=>by have:=Mh.o _ e.symm;omega));have G6:=q_ (G5.o.grown oH (fun e=>by have:=Mh.o _ e.symm;have:=Yg.o;omega))
      have Wk:=q_ (show∀b,o6.ownBlock=some b->w3.heap.size+2<=b from fun b e=>by
       rcases ho6 with h|h
       ·exact Mh.o b (h.symm.trans e)
       ·rw[h] at e;injection e with e;have:=SZR.o;omega)
      have T6:=q_ (show aW g w3 w6 from ax.Ha (OGR.o.tr T5.o) (fun b e hb=>by have:=Mh.o _ e;omega) oH);have S6':=q_ oH.size;clear jt oH ho6;obtain⟨A6,c6,e6⟩:=ja0.o.shape;subst e6;refine bH rfl 255 (.tmp 7) (.tmp 52) rfl w3.heap.size 0 (.slice A6 (a0++vs++[v]).length c6) _ (by rfl) (by rfl) (Yi.o.cell 0) (Yi.o.frozen 0) (by kernel_rfl) (by rfl) ?_;intro w7 Yj;have g7:w6.grownBy w7 (some w3.heap.size):=Yj▸aV w6 w3.heap.size 0 _;have AB7:=q_ (show ar w7 w3.heap.size 255 #[.slice A6 (a0++vs++[v]).length c6] from Yj▸Yi.o.one_set _);have OW7:=q_ (ja0.o.aK g7 (fun e=>by have:=Wk.o _ e;omega) (fun h=>h));have FB7:=q_ (jcg.o.aK g7 (by omega));have G7:=q_ (G6.o.aK g7 (by have:=Yg.o;omega));have T7:=q_ (show aW g w3 w7 from T6.o.grown (fun h=>by omega) g7);have S7:=q_ g7.size
      have Qw:=q_ (show M.cz (M.aL c st.m st.scopes d) R=M.pre (vs++[v]) (K+kk) (M.cz (M.aL c st.m st.scopes d) (R.drop (k+1))) by
       have:=cu.o
       rwa [<-HR.o] at this)
      have jch:=q_ (show∀z∈a0++(vs++[v]),iF z from fun z hz=>by
       rw[<-List.append_assoc] at hz;rcases List.mem_append.1 hz with h|h
       ·exact jaZ.o z h
       ·simp at h;rw[h];exact Yh.o)
      clear Yj g7;have jS:k+1<=R.length:=hlt;have hrle:=jcd.o;go_wp2;go_roundw
      case rel=>exact⟨k+1,K+kk,vs++[v],.slice A6 (a0++vs++[v]).length c6,jS,by go_num,hle,T7.o,by have:=S7.o;have:=S6'.o;have:=SZR.o;omega,AB7.o,by rw[<-List.append_assoc];exact OW7.o,Wk.o,FB7.o,by have:=SN.o;rw[this] at G7;exact G7.o,by rw[List.length_append,HVL.o];rfl,jch.o,Qw.o⟩
      case measure=>simp[intOf];omega
    ·obtain rfl:k=R.length:=by omega
     have q1:decide ((R.length:Int)<(R.length:Int))=false:=by simp
     have vO:=q_ (show M.cut F u (M.jo c st.m st.scopes d x ks)=(M.nV c st.m x.text (M.bl ks) (a0++vs),u+K) by
      have h1:M.cz (M.aL c st.m st.scopes d) (if M.fO x.text=true then ks.tail else ks)=(.ok vs,K):=by
       rw[<-HR.o,Mi.o,List.drop_length,M.TU]
      rw[Mf h1 HA0.o,M.bZ ZX])
     have Al:= @run_makeMap Tryz.prog;have Tu:∀(fn:Fn) (first cap:Array Value) (w:World),(Instr.makeFunc fn first cap).run Tryz.prog w= .ok (.func fn first cap) w:=fun _ _ _ _=>rfl;have HM:=q_ (rz.made 9 Value.string wr);have HB:=q_ ((Below.refl _ wr).alloc (n_) (.map #[] 0))
     go_wp2_with (first
      |(refine ll (by rfl) _ _ _ _ _ (by rfl) Tryz.underlying269 gq str_inj _ _ _ HM.o (by rfl) (by rfl) (by rfl) ⟨_,gu _ (by decide)⟩ ?_;intro wm VV hg1;have HB:=q_ (ai HB.o hg1 (n_));have HM:=q_ VV;clear VV hg1
        (try clear hx2);have hx2:wm.cell? ⟨ad.block,ad.off+2,none⟩=some (.string x.text):=((show aW g w wm from OGW.o.tr (ax.of HB.o)).cell (p:=⟨ad.block,ad.off+2,none⟩) UE.o.1 UE.o.2).trans E2.o
        try
         have Hz:rz 9 Value.string wm wr.heap.size (V' w.heap.size (w3.heap.size+1) w3.heap.size):=HM.o;have UH:=q_ (PBR.o.below HB.o PBR.o.lt);have AB9:=q_ (ZY.o.below HB.o ZY.o.lt);have FB9:=q_ (FBR.o.below HB.o FBR.o.lt);have Wl:=q_ (Nw.o.below HB.o Nw.o.lt);have PI9:=q_ (Wj.o.below HB.o);have Ye:=q_ (OWR.o.below HB.o);have RB9:=q_ ((OGR.o.blk RB3.o (by have:=HG.o;omega)).below HB.o (l_ RB3.o.lt OGR.o.size));have OG9:=q_ (show aW g w wm from OGW.o.tr (ax.of HB.o));obtain⟨LY,nP,Qx,Qy,iv⟩:=Qd g w.heap.size (w3.heap.size+1) w3.heap.size Mu S c st p bs F (u+K) x.text (M.bl ks) f _ (a0++vs) wm HF.o (by rw[List.length_append,HVL.o,Qt.o,SC.o]) pX.o UH.o FB9.o Wl.o PI9.o HX0.o AB9.o Ye.o jaZ.o;have hl:=rz.look Hz gq Tryz.underlying269 str_inj (gu x.text yF) (Tryz.zeroValue256 wm) Qx;have Qz:=q_ iv;have heg:∀args w,(callFunc LY args).run Tryz.prog w= .ok (.enter LY args) w:=Qy;clear Qx Qy iv Hz)
      |fail)
     refine Qz.o.mono ?_;rintro e w9 ⟨he,hb⟩;have RBA:=q_ (RB9.o.below hb RB9.o.lt);have GBA:=q_ (Wl.o.below hb Wl.o.lt);have OGA:=q_ (show aW g w w9 from OG9.o.tr (ax.of hb));have HE:=q_ he;clear hb he hl hx2;cases hr:M.nV c st.m x.text (M.bl ks) (a0++vs) with
     |error er=>
      rw[hr] at HE vO;obtain rfl:=HE.o;clear hr;unfold dD dt;go_wp2;exact⟨rfl,OGA.o,by rw[vO.o];exact GBA.o,by rw[vO.o];rfl⟩
     |ok v=>
      rw[hr] at HE vO;obtain rfl:=HE.o;clear hr;unfold dD;go_wp2_with (refine aq rfl (.tmp 4) (.tmp 77) rfl (w.heap.size+1) v (by rfl) (by rfl) RBA.o rfl ?_;intro wA kA gA;have KA:=q_ kA;have GA:=q_ gA;clear kA gA)
      (try simp only[Exit.inBlock,Exit.then]);exact bodyPost_ret (aT rfl KA.o rfl) rfl ⟨OGA.o.grown (fun h=>by omega) GA.o,by rw[vO.o];exact GBA.o.aK GA.o (by have:=HG.o;omega),by rw[vO.o];rfl⟩
def Ei(q:Option M.Fn):Bool:=match q with|some f=>decide (f.sort=1)|none=>false
theorem mv{m:Nat}(h:bn jB w S A m (ks.map M.flat))(hm:0<m)(hS:∀b,S b->b<w.heap.size):∃a1 nw n0 c0,A=some a1/\w.cell? a1=some (.slice (some nw) n0 c0)/\0<n0/\w.cell? nw=some (.int .i64 (M.bl ks).op)/\w.cell? ⟨nw.block,nw.off+2,none⟩=some (.string (M.bl ks).text)/\a1.block<w.heap.size/\nw.block<w.heap.size:=by
 obtain⟨a1,y,u,rfl,hb,hy,hr,hc⟩:=h.in1 rfl hm;rw[iU] at hc;cases ks with
 |nil=>simp at hy
 |cons t l=>
  simp at hy;subst hy;obtain⟨At,ct,rfl,-,hl⟩:=aU.av (E:=ENode) hr;cases t with
  |mk x zs=>
   have kf:M.flat (.mk x zs)=x::M.bB zs:=by unfold M.flat;rfl
   rw[kf] at hl hc;obtain⟨ad,rfl,hb2,-,e0,he⟩:=dy hl;exact⟨a1,ad,_,ct,rfl,hc,by simp,e0,he 1 _ rfl,hS _ hb,hS _ hb2⟩
theorem Mk(d:Nat)(ih:vC d):PC d:=by
 intro x ks aN at_ g mb D f env dests tables S A c w hT bf hop jH my aI hl;have hm:=aI.le;obtain⟨dM,fj,fk⟩:=cU hT
 have hHM:M.bG (aG tables) env (d+1) aN (.mk x ks)=match M.ed (M.bG (aG tables) env d (Ei (M.look x.text M.fns))) ks with
  | .error e=> .error e
  | .ok kinds=>M.iq (aG tables) (M.look x.text M.fns) kinds (M.bl ks):=by
  conv=>lhs;unfold M.bG
  rw[if_pos hop];rfl
 have HM:=q_ hHM;have kf:M.flat (.mk x ks)=x::M.bB ks:=by unfold M.flat;rfl
 have hl0:=hl;rw[kf] at hl0;obtain⟨ad,rfl,yx,kE,e0,he⟩:=dy hl0;have yF:x.text.size<=1048576:=kE.2.2.1;have sT:=M.eC (.mk x ks);have e1:=he 0 _ rfl;have e2:=he 1 _ rfl;have e3:=he 2 _ rfl;have e4:=he 3 _ rfl;have e5:=he 4 _ rfl;have e6:=he 5 _ rfl;have e7:=he 6 _ rfl;have e8:=he 7 _ rfl;have e9:=he 8 _ rfl;have HK:=q_ jH;have HL:=q_ hl;have jY:=q_ my;have Bf:=q_ bf;have nk:=q_ aI;have HT:=q_ hT;have IH:=q_ ih
 have UD:ks.length<=1048576:=by
  have h1:=M.dx ks;have h2:(M.flat (.mk x ks)).length=(M.bB ks).length+1:=by rw[kf];rfl
  omega
 generalize hq:M.look x.text M.fns=q at*;have HQ:=q_ hq;generalize Jo:(M.flat (.mk x ks)).length=m at*;have HN3:=q_ fk;have WANTED:=q_ (show∀k:Nat,M.wanted x k=3 by intro k;unfold M.wanted;rw[if_neg (by omega),if_neg (by omega)]);have iX:=q_ (show M.pz ks by unfold M.mh at bf;exact bf.2);clear hHM hl hl0 he jH my bf aI hT ih kf hq dM fj fk hop;obtain⟨w1,bu⟩:∃w1,w1=w.alloc (.cells #[.int .i64 x.op,.int .i64 x.n,.string x.text,.int .i64 x.num,.string x.path.aN,.int .i64 x.path.aP,.int .i64 x.path.aR,.int .i64 x.path.rep,.int .i64 x.path.comp,.int .i64 x.path.sub] 129):=⟨_,rfl⟩
 have K1:=q_ (show ar w1 w.heap.size 129 #[.int .i64 x.op,.int .i64 x.n,.string x.text,.int .i64 x.num,.string x.path.aN,.int .i64 x.path.aP,.int .i64 x.path.aR,.int .i64 x.path.rep,.int .i64 x.path.comp,.int .i64 x.path.sub] from bu▸ar.new w _ _);have B1:=q_ (show Below w.heap.size w w1 from bu▸(Below.refl _ w).alloc (n_) _);have s1:w.heap.size<w1.heap.size:=by rw[bu];simp
 go_enter Tryz.func183,Tryz.ntmps183;go_wp2_with fail;rw[<-bu];clear bu e0 e1 e2 e3 e4 e5 e6 e7 e8 e9;refine jG 9 [0,3,4,5,7] (qN w1 q) (by kernel_rfl) (by kernel_rfl) (qN.start w1) ?_;refine fU rfl ?_ ?_
 ·intro L vs wx hI hR hL K hK
  go_simp;exact(xB wx).mono fun e w' ⟨b,he,dS,hF,hb⟩=>⟨_,he,hK _ _ ((hI.on hb).jb1 hF)⟩
 intro KK af;go_simp;refine af _ ?_;clear af KK
 iterate 2
  apply iW rfl
  ·intro L vs wx hI hR hL K hK
   have c0:=fun i=>(K1.o.below hI.below K1.o.lt).cell i;go_simp;exact hK _ (hI.pure (by decide) (by decide) (by decide) (by decide) (by decide) (by decide))
  intro KK af;go_simp;refine af _ ?_;clear af KK
 refine fU rfl ?_ ?_
 ·intro L vs wx hI hR hL K hK
  obtain⟨b,e,hF⟩:=hI.f0 (hR 0 (by kernel_rfl));obtain⟨v,hv,SQ⟩:=PD hF x.text yF;rw[HQ.o] at hv SQ;go_simp;exact hK _ _ (hI.jb2 SQ)
 intro KK af;go_simp;refine af _ ?_;clear af KK;refine fU rfl ?_ ?_
 ·intro L vs wx hI hR hL K hK
  obtain⟨v,e,SQ⟩:=hI.f3 (hR 3 (by kernel_rfl));go_simp;exact hK _ _ (hI.LG SQ)
 intro KK af;go_simp;refine af _ ?_;clear af KK;refine fU rfl ?_ ?_
 ·intro L vs wx hI hR hL K hK
  obtain⟨v,e,SQ⟩:=hI.f4 (hR 4 (by kernel_rfl));go_simp;exact hK _ _ (hI.XV hL SQ)
 intro KK af;go_simp;refine af _ ?_;clear af KK;apply iW rfl
 ·intro L vs wx hI hR hL K hK
  obtain⟨v,e,SQ⟩:=hI.f4 (hR 4 (by kernel_rfl));go_simp;exact hK _ (hI.pure (by decide) (by decide) (by decide) (by decide) (by decide) (by decide))
 intro KK af;go_simp;refine af _ ?_;clear af KK;refine fU rfl ?_ ?_
 ·intro L vs wx hI hR hL K hK
  go_simp;exact hK _ _ (hI.jb3 hL)
 intro KK af;go_simp;refine af _ ?_;clear af KK;apply iW rfl
 ·intro L vs wx hI hR hL K hK
  have h7:=hR 7 (by kernel_rfl);have h5:=hR 5 (by kernel_rfl);obtain⟨g8,hg8,ja1,hz8,-⟩:=hI.f7 h7;obtain⟨A8,n8,t8,s8,b8,Cn⟩:=(hI.f5 h5).agg;have r5:=hz8 hL;have c0:∀i,wx.cell? ⟨g8,i,none⟩=(#[.slice none 0 0,.int .i64 0,.int .i64 0,.bool false]:Array Value)[i]? :=fun i=>r5.cell i;have f0:=fun i=>r5.frozen i;go_simp;exact hK _ (hI.jb4 h7 h5 hg8 Cn ja1 ⟨_,r5⟩ (LG r5).1 (LG r5).2 _)
 intro KK af;go_simp;refine af _ ?_;clear af KK;refine yL ?_;intro vs w2 hI;obtain⟨g8,hg8,ja1,-,hcs⟩:=hI.f7 (by decide);obtain⟨cs8,Cn,hk8⟩:=hcs (by decide);have SQ:=hI.f5 (by decide);obtain⟨v4,hv4,-⟩:=hI.f4 (by decide);obtain⟨v3,hv3,-⟩:=hI.f3 (by decide);have B2:=q_ (B1.o.trans (hI.below.mono B1.o.size));have K2:=q_ (K1.o.below hI.below K1.o.lt);have K8:=q_ hk8;have FV:=q_ SQ;have HV5:=q_ Cn;intro KK af;rw[hg8];clear hI hg8 hcs Cn SQ hk8 hv4 hv3;simp only[List.drop_succ_cons];generalize hqs:q.isSome=qs;have HQS:=q_ hqs;clear hqs;have qK:=q_ (fun b (h:S b)=>l_ (HK.o.there b h) B2.o.size);have KP:=q_ (fh x ks Bf.o (some ad) m c S w2 qK.o nk.o (HL.o.below B2.o HK.o.there));go_wp2_with fail;refine KP.o.mono ?_;rintro e w3 ⟨A1,c1,A2,c2,rfl,kY,hk2,dF,hl2,hb3⟩;have B3:=q_ (B2.o.trans (hb3.mono B2.o.size));have K8b:=q_ (K8.o.below hb3 K8.o.lt);have FVb:=q_ (FV.o.stays hb3);have P1:=q_ dF;have P2:=q_ hl2;have fS:=q_ kY;have ZZ:=q_ hk2
 have SW:=q_ (show∀b,(S b\/New w2 w3 b)->b<w3.heap.size from fun b h=>h.elim (fun h=>l_ (qK.o b h) hb3.size) (fun h=>h.2));have hs3:=hb3.size;clear kY hk2 dF hl2 hb3;obtain⟨F,hF⟩:∃F,F=M.bG (aG tables) env d (Ei q):=⟨_,rfl⟩
 have HF:=q_ hF;obtain⟨w4,hw4⟩:∃w4,w4=w3.alloc (.cells #[.slice A1 ks.length c1] 132):=⟨_,rfl⟩
 have s4:w4.heap.size=w3.heap.size+1:=by rw[hw4];simp
 have X10:=q_ (show ar w4 w3.heap.size 132 #[.slice A1 ks.length c1] from hw4▸ar.new w3 _ _);have UI:=q_ (show Below w3.heap.size w3 w4 from hw4▸aj.alloc _ _);have B4:=q_ (B3.o.trans (UI.o.mono B3.o.size));have K84:=q_ (K8b.o.below UI.o K8b.o.lt);have FV4:=q_ (FVb.o.stays UI.o);obtain⟨ZK,DJ,hz2,hs2,hb2⟩:=info_parts vy;have I1:=q_ DJ;have I2:=q_ hz2;have I3:=q_ hs2;have I4:=q_ hb2;clear hF DJ hz2 hs2 hb2;go_wp2_with fail;rw[<-hw4];clear hw4;go_loopw [12,32] (fun v y wr=>∃(k:Nat) (kl:List Int),k<=ks.length/\y= .int .i64 k/\aD yJ 3 wr (w3.heap.size+1) (fun _=>False) v kl/\kl.length=k/\(∀(j:Nat) (t:M.Tree),j<k->ks[j]? =some t->∃kk,kl[j]? =some kk/\F t= .ok kk)/\Below w4.heap.size w4 wr) (fun _ y _=>ks.length-(intOf y).toNat)
 case atStart=>exact⟨0,[],by omega,rfl,aD.nil (fun b hb=>hb.elim),rfl,(fun j t hj=>by omega),Below.refl _ _⟩
 case round=>
  obtain⟨k,kl,hk,rfl,hown,nM,hall,hb⟩:=hrel;have OW:=q_ hown;have nO:=q_ hall;have HB:=q_ hb;have ue:=q_ nM;have BR:=q_ (B4.o.trans (hb.mono B4.o.size));have hsr:=hb.size;clear hown hall hb nM;by_cases hlt:k<ks.length
  ·have q1:decide ((k:Int)<(ks.length:Int))=true:=by simp;omega
   obtain⟨t,dY⟩:∃t,ks[k]? =some t:=⟨_,e_ hlt⟩
   have B3R:=q_ (UI.o.trans (HB.o.mono UI.o.size));obtain⟨a1,y1,u1,rfl,ib,fI,hr1,hc1⟩:=(P1.o.below B3R.o SW.o).in1 rfl hlt;rw[List.getElem?_map,dY] at fI;cases fI;obtain⟨At,ct,rfl,fE,di⟩:=aU.av (E:=ENode) hr1;obtain⟨a2,y2,u2,rfl,nQ,eI,hr2,hc2⟩:=(P2.o.below B3R.o (fun b h=>h.2)).in1 rfl hlt;obtain⟨e2,-⟩:=hr2;simp at e2;subst e2;have gS:=cF HT.o dY;rw[show M.wanted x k=3 from WANTED.o k] at gS;have KE:=q_ (fun(W:World) (h:Below wr.heap.size wr W) (z:Int)=>IH.o t (Ei q) z g mb D f env dests tables (fun b=>S b\/New w2 w3 b) At ct W gS (M.cw (show M.pz ks from iX.o) dY) (((HK.o.below BR.o).wide (fun b h=> .inl h) (fun b h=>by have:=SW.o b h;omega)).below h) jY.o fE (di.below h (fun b h=>by have:=SW.o b h;omega)));rw[<-HF.o] at KE;have H7:=q_ (show a2.block<wr.heap.size from by have:=nQ.2;omega);have Nx:=q_ (K84.o.below HB.o K84.o.lt);clear hr1 di;cases q with
   |none=>
    obtain rfl:qs=false:=HQS.o.symm;cases pY:F t with
    |error er=>
     have gR:=q_ (show∃z,M.bG (aG tables) env (d+1) aN (.mk x ks)= .error z by
      obtain⟨z,hz⟩:=kz F ks k t er dY pY;rw[HF.o] at hz;exact⟨z,by rw[HM.o,hz]⟩)
     have Ml:=q_ dY;clear dY;go_wp2_with fail;refine ak (KP:=fun ch w5=>eR ch/\Below w.heap.size w w5) 17 [] (cN wr 15) (by kernel_rfl) (by kernel_rfl) (cN.start wr 15) (fun ch a2 w5 hd hk=>⟨hd,bU.err gR.o hk.2 ⟨ch,rfl,hk.1⟩⟩) ?_
     iterate 15
      apply ae rfl
      ·intro L vs wx hI hR hL K hK
       have c0:=(hI.below.cell (p:=a2.add k) (by rw[az];exact H7.o)).trans hc2;go_simp;exact hK _ (hI.pure (by decide))
      intro KK af;go_simp;refine af _ ?_;clear af KK
     refine ae (v:= .int .i64 0) rfl ?_ ?_
     ·intro L vs wx hI hR hL K hK
      go_simp;exact((KE.o wx hI.below _).mono fun e w' ⟨hb,he⟩=> .inr (by rw[pY] at he;obtain⟨ch,rfl,hf⟩:=he;exact⟨ch,rfl,hf,BR.o.trans ((hI.below.trans (hb.mono hI.below.size)).mono BR.o.size)⟩))
     intro KK af;go_simp;refine af _ ?_;clear af KK;refine ae (v:= .int .i64 0) rfl (fun L vs wx hI hR=>absurd (hR 15 (by kernel_rfl)) (by rw[hI.no];simp)) ?_;intro KK af;refine af _ ?_;clear af KK;refine aw ?_;intro vs w5 hI;exact absurd hI.no (by decide)
    |ok kk=>
     have Ml:=q_ dY;have pX:=q_ pY;clear dY;go_wp2_with fail;refine ak (KP:=fun _ _=>False) 17 [16] (mm wr 16 3 #[.int .i64 kk]) (by kernel_rfl) (by kernel_rfl) (mm.start wr) (fun ch a2 w5 hd hk=>hk.elim) ?_
     iterate 15
      apply ae rfl
      ·intro L vs wx hI hR hL K hK
       have c0:=(hI.below.cell (p:=a2.add k) (by rw[az];exact H7.o)).trans hc2;go_simp;exact hK _ (hI.pure (by decide))
      intro KK af;go_simp;refine af _ ?_;clear af KK
     refine ae (v:= .int .i64 kk) rfl ?_ ?_
     ·intro L vs wx hI hR hL K hK
      go_simp;exact(KE.o wx hI.below _).mono fun e w' ⟨hb,he⟩=>⟨_,(show e= .returned (.int .i64 kk) by rw[pY] at he;exact he),hK _ (hI.move hb (by decide))⟩
     intro KK af;go_simp;refine af _ ?_;clear af KK;refine bc rfl ?_ ?_
     ·intro L vs wx hI hR hL K hK
      go_simp;exact hK _ _ hI.make
     intro KK af;go_simp;refine af _ ?_;clear af KK;refine aw ?_;intro vs w5 hI;obtain⟨g5,qJ,ja2,Fw⟩:=hI.blk (by decide);have S5:=q_ hI.below;have K5:=q_ Fw;have hs5:=hI.below.size;intro KK af;have kg:=fun a w h=>af .normal a w h;clear af;rw[qJ];clear hI qJ Fw;simp only[List.drop_succ_cons];have O5:=q_ (OW.o.below S5.o);have H8:kl.length<=1048576:=by have:=ue.o;omega
     refine ay rfl (.tmp 37) (.tmp 53) _ rfl ZK (.int .i64 0) 8 Tryz.underlying133 I1.o I2.o I3.o I4.o rfl rfl O5.o ⟨g5,0,none⟩ 1 1 [kk] rfl rfl (fw K5.o ⟨rfl,trivial⟩) (by omega) (by omega) (by omega) ?_;intro o6 w6 jt dw oH _;have O6:=q_ jt;have S6:=q_ (show Below w4.heap.size w4 w6 from(HB.o.trans (S5.o.mono HB.o.size)).trans (dw.mono (by omega)))
     have HA6:=q_ (show∀(j:Nat) (t:M.Tree),j<k+1->ks[j]? =some t->∃z,(kl++[kk])[j]? =some z/\F t= .ok z from fun j t' hj kH=>by
      rcases Nat.lt_or_ge j k with h1|h1
      ·obtain⟨z,hz1,hz2⟩:=nO.o j t' h1 kH
       exact⟨z,by rw[List.getElem?_append_left (by have:=ue.o;omega)];exact hz1,hz2⟩
      ·obtain rfl:j=k:=by omega
       rw[Ml.o] at kH;cases kH;exact⟨kk,by rw[List.getElem?_append_right (by have:=ue.o;omega),ue.o];simp,pX.o⟩)
     clear jt dw oH;go_wp2;go_roundw
     case rel=>exact⟨k+1,kl++[kk],by omega,by go_num,O6.o,by rw[List.length_append,ue.o];rfl,HA6.o,S6.o⟩
     case measure=>simp[intOf];omega
   |some fn=>
    obtain rfl:qs=true:=HQS.o.symm;obtain⟨mbF,Aa,eF,hA⟩:=FV4.o;rw[HV5.o] at eF;injection eF with eF;subst eF;have hsg:(fn.sort==1)=Ei (some fn):=by simp[Ei,Bool.beq_eq_decide_eq]
    have Nx:=q_ (show ar wr g8 282 #[.slice Aa (qM fn).1.size (qM fn).1.size,.int .i64 fn.tells,.int .i64 fn.sort,.bool fn.table] from Nx.o);cases pY:F t with
    |error er=>
     have gR:=q_ (show∃z,M.bG (aG tables) env (d+1) aN (.mk x ks)= .error z by
      obtain⟨z,hz⟩:=kz F ks k t er dY pY;rw[HF.o] at hz;exact⟨z,by rw[HM.o,hz]⟩)
     have Ml:=q_ dY;clear dY;go_wp2_with fail;refine ak (KP:=fun ch w5=>eR ch/\Below w.heap.size w w5) 17 [] (cN wr 15) (by kernel_rfl) (by kernel_rfl) (cN.start wr 15) (fun ch a2 w5 hd hk=>⟨hd,bU.err gR.o hk.2 ⟨ch,rfl,hk.1⟩⟩) ?_
     iterate 15
      apply ae rfl
      ·intro L vs wx hI hR hL K hK
       first
       |have c0:=(hI.below.cell (p:=a2.add k) (by rw[az];exact H7.o)).trans hc2
        go_simp;exact hK _ (hI.pure (by decide))
       |have c0:=fun i=>(Nx.o.below hI.below Nx.o.lt).cell i
        go_simp;exact hK _ (hI.pure (by decide))
      intro KK af;go_simp;refine af _ ?_;clear af KK
     refine ae (v:= .int .i64 0) rfl ?_ ?_
     ·intro L vs wx hI hR hL K hK
      go_simp;exact((KE.o wx hI.below _).mono fun e w' ⟨hb,he⟩=> .inr (by rw[pY] at he;obtain⟨ch,rfl,hf⟩:=he;exact⟨ch,rfl,hf,BR.o.trans ((hI.below.trans (hb.mono hI.below.size)).mono BR.o.size)⟩))
     intro KK af;go_simp;refine af _ ?_;clear af KK;refine ae (v:= .int .i64 0) rfl (fun L vs wx hI hR=>absurd (hR 15 (by kernel_rfl)) (by rw[hI.no];simp)) ?_;intro KK af;refine af _ ?_;clear af KK;refine aw ?_;intro vs w5 hI;exact absurd hI.no (by decide)
    |ok kk=>
     have Ml:=q_ dY;have pX:=q_ pY;clear dY;go_wp2_with fail;refine ak (KP:=fun _ _=>False) 17 [16] (mm wr 16 3 #[.int .i64 kk]) (by kernel_rfl) (by kernel_rfl) (mm.start wr) (fun ch a2 w5 hd hk=>hk.elim) ?_
     iterate 15
      apply ae rfl
      ·intro L vs wx hI hR hL K hK
       first
       |have c0:=(hI.below.cell (p:=a2.add k) (by rw[az];exact H7.o)).trans hc2
        go_simp;exact hK _ (hI.pure (by decide))
       |have c0:=fun i=>(Nx.o.below hI.below Nx.o.lt).cell i
        go_simp;exact hK _ (hI.pure (by decide))
      intro KK af;go_simp;refine af _ ?_;clear af KK
     refine ae (v:= .int .i64 kk) rfl ?_ ?_
     ·intro L vs wx hI hR hL K hK
      go_simp;exact(KE.o wx hI.below _).mono fun e w' ⟨hb,he⟩=>⟨_,(show e= .returned (.int .i64 kk) by rw[pY] at he;exact he),hK _ (hI.move hb (by decide))⟩
     intro KK af;go_simp;refine af _ ?_;clear af KK;refine bc rfl ?_ ?_
     ·intro L vs wx hI hR hL K hK
      go_simp;exact hK _ _ hI.make
     intro KK af;go_simp;refine af _ ?_;clear af KK;refine aw ?_;intro vs w5 hI;obtain⟨g5,qJ,ja2,Fw⟩:=hI.blk (by decide);have S5:=q_ hI.below;have K5:=q_ Fw;have hs5:=hI.below.size;intro KK af;have kg:=fun a w h=>af .normal a w h;clear af;rw[qJ];clear hI qJ Fw;simp only[List.drop_succ_cons];have O5:=q_ (OW.o.below S5.o);have H8:kl.length<=1048576:=by have:=ue.o;omega
     refine ay rfl (.tmp 37) (.tmp 53) _ rfl ZK (.int .i64 0) 8 Tryz.underlying133 I1.o I2.o I3.o I4.o rfl rfl O5.o ⟨g5,0,none⟩ 1 1 [kk] rfl rfl (fw K5.o ⟨rfl,trivial⟩) (by omega) (by omega) (by omega) ?_;intro o6 w6 jt dw oH _;have O6:=q_ jt;have S6:=q_ (show Below w4.heap.size w4 w6 from(HB.o.trans (S5.o.mono HB.o.size)).trans (dw.mono (by omega)))
     have HA6:=q_ (show∀(j:Nat) (t:M.Tree),j<k+1->ks[j]? =some t->∃z,(kl++[kk])[j]? =some z/\F t= .ok z from fun j t' hj kH=>by
      rcases Nat.lt_or_ge j k with h1|h1
      ·obtain⟨z,hz1,hz2⟩:=nO.o j t' h1 kH
       exact⟨z,by rw[List.getElem?_append_left (by have:=ue.o;omega)];exact hz1,hz2⟩
      ·obtain rfl:j=k:=by omega
       rw[Ml.o] at kH;cases kH;exact⟨kk,by rw[List.getElem?_append_right (by have:=ue.o;omega),ue.o];simp,pX.o⟩)
     clear jt dw oH;go_wp2;go_roundw
     case rel=>exact⟨k+1,kl++[kk],by omega,by go_num,O6.o,by rw[List.length_append,ue.o];rfl,HA6.o,S6.o⟩
     case measure=>simp[intOf];omega
  ·have lu:k=ks.length:=by omega
   have QA:=q_ (rj F ks kl (by rw[ue.o,lu]) (fun j t hj=>nO.o j t (by
    have:=(List.getElem?_eq_some_iff.mp hj).1;omega) hj))
   have vP:=q_ (show M.bG (aG tables) env (d+1) aN (.mk x ks)=M.iq (aG tables) q kl (M.bl ks) by rw[HM.o,<-HF.o,QA.o]);have H8:kl.length<=1048576:=by have:=ue.o;omega
   have q1:decide ((k:Int)<(ks.length:Int))=false:=by simp;omega
   have Nx:=q_ (K84.o.below HB.o K84.o.lt);have FVR:=q_ (FV4.o.stays HB.o);have KR:=q_ ((HK.o.below BR.o).wide (fun b h=>(.inl h:S b\/New w2 w3 b)) (fun b h=>by have:=SW.o b h;omega));have B3R:=q_ (UI.o.trans (HB.o.mono UI.o.size));have ja3:=q_ (X10.o.below HB.o X10.o.lt);cases q with
   |none=>
    obtain rfl:qs=false:=HQS.o.symm;go_wp2_with fail;refine(cM 92 _ (by decide) _).mono ?_
    rintro e w5 ⟨⟨ch,rfl,hf⟩,rfl⟩;go_wp2;exact⟨rfl,bU.err (show∃z,M.bG (aG tables) env (d+1) aN (.mk x ks)= .error z from⟨92,by rw[vP.o];rfl⟩) BR.o ⟨ch,rfl,hf⟩⟩
   |some fn=>
    obtain rfl:qs=true:=HQS.o.symm;obtain⟨mbF,Aa,eF,hA⟩:=FVR.o;rw[HV5.o] at eF;injection eF with eF;subst eF;have HFF:=q_ (yO HQ.o);have KE:=q_ (fun(v:Value) (h:aD yJ 3 wr (w3.heap.size+1) (fun _=>False) v kl)=>LS v (w3.heap.size+1) mbF kl fn Aa wr h H8 hA (by have:=HFF.o.1;omega));clear hA;have Nx:=q_ (show ar wr g8 282 #[.slice Aa (qM fn).1.size (qM fn).1.size,.int .i64 fn.tells,.int .i64 fn.sort,.bool fn.table] from Nx.o);have Wm:=fun i=>Nx.o.cell i;go_wp2_with fail;refine(bL 92 _ _).mono ?_
    rintro e w5 ⟨rfl,rfl⟩;go_wp2_with fail;refine(KE.o _ OW.o).mono ?_
    rintro e w6 ⟨rfl,dw⟩;have Ny:=q_ (BR.o.trans (dw.mono BR.o.size));have Mm:=q_ (Nx.o.below dw Nx.o.lt);have QB:=q_ (ja3.o.below dw ja3.o.lt);have Z1:=q_ (KR.o.below dw);have P16:=q_ (P1.o.below (B3R.o.trans (dw.mono B3R.o.size)) SW.o);have PS6:=q_ (show∀b,(S b\/New w2 w3 b)->b<w6.heap.size from fun b h=>by have:=SW.o b h;have:=dw.size;omega);clear dw Wm;have Wm:=fun i=>Mm.o.cell i;by_cases hE:kl=fn.args
    ·have NE:=q_ (show fn.sort=1\/fn.sort=2\/fn.table=true->0<ks.length from fun h=>by
      have h1:=ue.o;rcases Nat.eq_zero_or_pos ks.length with h2|h2
      ·obtain⟨a,b,c⟩:=HFF.o.2 (by rw[<-hE];exact List.eq_nil_of_length_eq_zero (by omega))
       rcases h with h|h|h
       ·exact absurd h a
       ·exact absurd h b
       ·rw[c] at h;cases h
      ·exact h2)
     have HE:=q_ hE;have q3:decide (kl=fn.args)=true:=by simp[hE]
     clear hE;go_wp2_with fail;refine(bL 82 _ _).mono ?_
     rintro e w7 ⟨rfl,h7⟩;have h7:=h7.symm;subst h7;rcases(show(fn.sort=1/\(M.bl ks).op≠11)\/(fn.sort=2/\(M.bl ks).op≠7)\/(fn.sort=1/\(M.bl ks).op=11)\/(fn.sort=2/\(M.bl ks).op=7)\/(fn.sort≠1/\fn.sort≠2) by omega) with⟨hs,ho⟩|⟨hs,ho⟩|⟨hs,ho⟩|⟨hs,ho⟩|⟨hs,ho⟩
     iterate 4
      have HS:=q_ hs;have HO:=q_ ho
      first|have q4:(fn.sort==1)=true:=by simp[hs]|have q4:(fn.sort==1)=false:=by simp[hs]
      try have q5:(fn.sort==2)=true:=by simp[hs]
      first|have q2:((M.bl ks).op==11)=true:=by simp[ho]|have q2:((M.bl ks).op==7)=true:=by simp[ho]|have q2:((M.bl ks).op==11)=false:=by simp[ho]|have q2:((M.bl ks).op==7)=false:=by simp[ho]
      have jq:=NE.o (by first|exact .inl HS.o|exact .inr (.inl HS.o));obtain⟨a1,nw,n0,c0,Dz,cA,Eh,cB,cC,ha1,H9⟩:=mv P16.o jq PS6.o;have HA1:=q_ Dz;have Yk:=q_ (show ar w6 w3.heap.size 132 #[.slice (some a1) ks.length c1] from HA1.o▸QB.o);have cX:=fun i=>Yk.o.cell i;have hnx:0<ks.length:=jq;clear Dz cC hs ho
      focus go_wp2_with fail
      rotate_left
     have HS:=q_ hs;have HO:=q_ ho;have q4:(fn.sort==1)=false:=by simp[hs]
     have q5:(fn.sort==2)=false:=by simp[ho]
     clear hs ho;rotate_left
     iterate 2
      refine(cM 82 _ (by decide) _).mono ?_
      rintro e w7 ⟨⟨ch,rfl,hf⟩,rfl⟩
      focus go_wp2
      exact⟨rfl,bU.err (show∃z,M.bG (aG tables) env (d+1) aN (.mk x ks)= .error z from⟨82,by rw[vP.o];unfold M.iq;simp only[];rw[HE.o];simp[HS.o,HO.o]⟩) Ny.o ⟨ch,rfl,hf⟩⟩
     iterate 2
      refine(bL 82 _ _).mono ?_
      rintro e w7 ⟨rfl,h7⟩;have h7:=h7.symm;subst h7;clear cX cA cB q2;rotate_left
     all_goals
      have CE:=q_ (show M.iq (aG tables) (some fn) kl (M.bl ks)=if fn.table=true/\M.fo (aG tables) (M.bl ks).text=false then .error 92 else .ok fn.tells by
       unfold M.iq;simp only[];rw[HE.o,if_neg (by simp),if_neg (by have:=HS.o;have:=HO.o;omega),if_neg (by have:=HS.o;have:=HO.o;omega)])
      cases iR:fn.table with
      |false=>
       have jZ:=q_ iR;have c8:∀i,w6.cell? ⟨g8,i,none⟩=(#[.slice Aa (qM fn).1.size (qM fn).1.size,.int .i64 fn.tells,.int .i64 fn.sort,.bool false]:Array Value)[i]? :=fun i=>by rw[<-jZ.o];exact Mm.o.cell i
       clear iR Wm;go_wp2_with fail;refine(bL 92 _ _).mono ?_
       rintro e w7 ⟨rfl,h7⟩;have h7:=h7.symm;subst h7;go_wp2;go_ret;exact bU.ok (k:=fn.tells) (by rw[vP.o,CE.o,if_neg (by rw[jZ.o];simp)]) Ny.o rfl
      |true=>
       have jZ:=q_ iR;have c8:∀i,w6.cell? ⟨g8,i,none⟩=(#[.slice Aa (qM fn).1.size (qM fn).1.size,.int .i64 fn.tells,.int .i64 fn.sort,.bool true]:Array Value)[i]? :=fun i=>by rw[<-jZ.o];exact Mm.o.cell i
       have jq:=NE.o (.inr (.inr iR));clear iR Wm;obtain⟨a1,nw,n0,c0,rfl,cA,Eh,cB,cC,ha1,H9⟩:=mv P16.o jq PS6.o;obtain⟨dA,dc,tA,tc,hg,jf,nU,JF,FH⟩:=Z1.o.blk;have cg:=fun i=>hg.cell i;have HTB:=q_ (vF tables _ tA tc w3.heap.size a1 nw ks.length c1 n0 c0 (M.bl ks).text w6 nU FH Z1.o.there QB.o jq cA Eh cC ha1 H9);clear JF FH hg cA cB cC;go_wp2_with fail;refine HTB.o.mono ?_;rintro e w8 ⟨rfl,Jk⟩;have Wn:=q_ (Ny.o.trans (Jk.mono Ny.o.size));have K88:=q_ (Mm.o.below Jk Mm.o.lt);clear Jk c8;have c8:=fun i=>K88.o.cell i;cases JG:M.fo (aG tables) (M.bl ks).text with
       |false=>
        have QC:=q_ JG;clear JG;go_wp2_with fail;refine(cM 92 _ (by decide) _).mono ?_
        rintro e w7 ⟨⟨ch,rfl,hf⟩,rfl⟩;go_wp2;exact⟨rfl,bU.err (show∃z,M.bG (aG tables) env (d+1) aN (.mk x ks)= .error z from⟨92,by rw[vP.o,CE.o,if_pos ⟨jZ.o,QC.o⟩]⟩) Wn.o ⟨ch,rfl,hf⟩⟩
       |true=>
        have QC:=q_ JG;clear JG;go_wp2_with fail;refine(bL 92 _ _).mono ?_
        rintro e w7 ⟨rfl,h7⟩;have h7:=h7.symm;subst h7;go_wp2;go_ret;exact bU.ok (k:=fn.tells) (by rw[vP.o,CE.o,if_neg (by rw[QC.o];simp)]) Wn.o rfl
    ·have HE:=q_ hE
     have q3:decide (kl=fn.args)=false:=by simp[hE]
     clear hE;go_wp2_with fail;refine(cM 82 _ (by decide) _).mono ?_
     rintro e w7 ⟨⟨ch,rfl,hf⟩,rfl⟩;go_wp2;exact⟨rfl,bU.err (show∃z,M.bG (aG tables) env (d+1) aN (.mk x ks)= .error z from⟨82,by rw[vP.o];unfold M.iq;simp only[];simp[HE.o]⟩) Ny.o ⟨ch,rfl,hf⟩⟩
end Go.Proofs.YtpohlhkgbmdieaaGreatDoor
