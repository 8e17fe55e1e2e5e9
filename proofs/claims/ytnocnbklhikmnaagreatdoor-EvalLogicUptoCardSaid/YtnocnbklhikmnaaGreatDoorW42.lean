/- Part 42 of the proof. -/
import Derived.Test.YtnocnbklhikmnaaGreatDoorW33
set_option linter.unusedVariables false
set_option maxRecDepth 1000000
set_option maxHeartbeats 16000000
namespace Go.Proofs.YtnocnbklhikmnaaGreatDoor
variable{F K:Nat}{c:M.Cx}{d:Nat}{ks:List M.Tree}{m:M.Msg}{scopes:List M.Scope}{u u2:Nat}{vs:List M.Val}{x:M.Node}
open Go Go.RowKit Go.BigFrame Go.Maps Go.WideMaps
theorem info_val:(Tryz.prog.info? 37).map (fun i=>(i.zero,i.size,i.bytes))=some (some (.agg #[.int .i64 0,.string ByteArray.empty,.int .i64 0,.bool false]),4,40):=by kernel_rfl
def CaOk(d:Nat):Prop:=∀(x:M.Node) (ks:List M.Tree) (g:Nat) (Mu S N:Nat->Prop) (c:M.Cx) (st:M.St) (p:PV) (bs:List Nat) (F u:Nat) (env:List (ByteArray×Int)) (seg:Bool) (k:Int) (A:Option Addr) (cap:Nat) (w:World),
 M.okT (d+1) 3 (.mk x ks)=true->M.wfT (.mk x ks)->x.op=23->M.kindE (tnames c.tables) env (d+1) seg (.mk x ks)= .ok k->PlIn w g Mu S c st p bs->Blk w g 77 #[.int .u8 (p.d.f.toNat:Int),.int .u8 (p.d.c.toNat:Int),.int .u8 (p.d.r.toNat:Int),.int .u8 (p.d.e.toNat:Int),.int .u8 (p.d.s.toNat:Int),p.v,p.tv,.string p.now,.int .i64 (F:Nat),.int .i64 (u:Nat),p.rv,.bool p.stop,p.sv]->F<=2000->u<=F->(∀b,N b->b<w.heap.size/\b≠g)->SOk A (M.flat (.mk x ks)).length cap->LAt ENode w N A (M.flat (.mk x ks)).length (M.flat (.mk x ks))->
 Calls Tryz.prog 95 #[.pointer (some ⟨g,0,none⟩),.slice A (M.flat (.mk x ks)).length cap] w (ExP w g p F (M.cut F u (M.callR c st.m st.scopes d x ks)))
theorem const_text(s:ByteArray)(l:List UInt8):(s.toList==l)=M.eqT s (M.T l):=by simp[M.eqT,M.T,ByteArray.toList_eq]
theorem skips_one{tn:List ByteArray}{env:List (ByteArray×Int)}{seg:Bool}{k:Int}(h:x.op=23)(hk:M.kindE tn env (d+1) seg (.mk x ks)= .ok k)(hs:M.skips x.text=true):1<=ks.length:=by
 obtain⟨f,hf,hl,_⟩:=call_facts h hk;have hmem:=look_pair _ _ _ hf;generalize x.text=name at*;unfold M.fns at hmem;simp only[List.mem_cons,Prod.mk.injEq,List.not_mem_nil,or_false] at hmem;rcases hmem with⟨rfl,rfl⟩|⟨rfl,rfl⟩|⟨rfl,rfl⟩|⟨rfl,rfl⟩|⟨rfl,rfl⟩|⟨rfl,rfl⟩|⟨rfl,rfl⟩|⟨rfl,rfl⟩|⟨rfl,rfl⟩|⟨rfl,rfl⟩|⟨rfl,rfl⟩|⟨rfl,rfl⟩|⟨rfl,rfl⟩|⟨rfl,rfl⟩|⟨rfl,rfl⟩
 all_goals first
  |(rw[hl];decide)
  |(exfalso;revert hs;decide)
theorem cut_err{l:List M.Tree}{t:M.Tree}{e:Int}(hlaw:M.valsL (M.evalE c m scopes d) (if M.skips x.text=true then ks.tail else ks)=M.pre vs K (M.valsL (M.evalE c m scopes d) (t::l)))(h:M.cut F (u+K) (M.evalE c m scopes d t)=(.error e,u2)):M.cut F u (M.callR c m scopes d x ks)=(.error e,u2):=by
 cases hr:M.evalE c m scopes d t with
 |mk r kk=>
  rw[hr] at h;by_cases hq:u+K+kk<=F
  ·rw[M.cut_le hq] at h
   injection h with h1 h2;simp only at h1 h2;subst h1
   have hv:M.callR c m scopes d x ks=(.error e,K+kk):=by
    unfold M.callR;rw[hlaw,M.pre_err hr]
   rw[hv,M.cut_le (by show u+(K+kk)<=F;omega)];simp only[Prod.mk.injEq,true_and];omega
  ·rw[M.cut_gt hq] at h
   injection h with h1 h2;have h3:=M.pre_most (vs:=vs) (K:=K) (l:=l) hr;rw[<-hlaw,<-M.callR_2] at h3;rw[M.cut_gt (by omega),<-h2];cases h1;rfl
theorem cut_val{r:Except Int M.Val×Nat}{v:M.Val}(h:M.cut F (u+K) r=(.ok v,u2)):∃kk,r=(.ok v,kk)/\u2=u+(K+kk)/\u+(K+kk)<=F:=by
 obtain⟨r,kk⟩:=r;by_cases hq:u+K+kk<=F
 ·rw[M.cut_le hq] at h
  injection h with h1 h2;simp only at h1 h2;exact⟨kk,by rw[h1],by omega,by omega⟩
 ·rw[M.cut_gt hq] at h
  injection h with h1 h2;cases h1
theorem callR_end{a0:List M.Val}(hlaw:M.valsL (M.evalE c m scopes d) (if M.skips x.text=true then ks.tail else ks)=(.ok vs,K))(h0:a0=if M.skips x.text=true then[M.vNone] else[]):M.callR c m scopes d x ks=(M.callV c m x.text (M.headX ks) (a0++vs),K):=by
 unfold M.callR;rw[hlaw,h0];simp only;split<;>rfl
theorem vNone_ok:VOk M.vNone:=⟨by decide,by decide,by decide⟩
theorem headX_ok{w:World}{S:Nat->Prop}{A:Option Addr}(h:LAt ENodes w S A ks.length (ks.map M.flat)):(M.headX ks).ok64:=by
 cases ks with
 |nil=>refine⟨?_,?_,by decide,?_,by decide,?_,?_,?_,?_,?_⟩<;>exact⟨by decide,by decide⟩
 |cons t tl=>
  obtain⟨x0,ks0⟩:=t;obtain⟨a1,y1,u1,rfl,hbS1,hy1,hr1,hc1⟩:=h.in1 (k:=0) rfl (by simp);simp at hy1;subst hy1;obtain⟨At,ct,rfl,hokt,hl1⟩:=Enc.list_inv (E:=ENode) hr1;rw[show M.flat (.mk x0 ks0)=x0::M.flats ks0 by unfold M.flat;rfl] at hl1;obtain⟨ad0,rfl,hbS0,hx0,e00,he0⟩:=node_open hl1;exact hx0
theorem eca_any(d:Nat)(hex:ExOk d)(hvals:ValsOk d):CaOk d:=by
 intro x ks g Mu S N c st p bs F u env seg kq A cap w hT hwf hop hkind hp hgb hF hu hN hok hl;have hm:=hok.le;obtain⟨htop1,htop2,htop3⟩:=okT_top hT;have hfl:M.flat (.mk x ks)=x::M.flats ks:=by unfold M.flat;rfl
 have HWF:=q_ hwf;have HOK:=q_ hok;have HL:=q_ hl;have HT:=q_ hT;have HP:=q_ hp;have HG:=q_ (show g<w.heap.size from hgb.lt);have HGB:=q_ hgb;have HN:=q_ hN;have HOP:=q_ hop;have hl0:=hl;rw[hfl] at hl0;obtain⟨ad,rfl,hbS,hx64,e0,he⟩:=node_open hl0;have hts:x.text.size<=1048576:=hx64.2.2.1;have HX64:=q_ hx64;have hpos:=M.flat_pos (.mk x ks)
 have hnl:ks.length<=1048576:=by
  have h1:=M.flats_len ks;have h2:(M.flat (.mk x ks)).length=(M.flats ks).length+1:=by rw[hfl];rfl
  omega
 have HWFL:=q_ (show M.wfL ks by unfold M.wfT at hwf;exact hwf.2);have E2:=q_ (he 1 _ rfl);have EAD:=q_ (show ad.block<w.heap.size/\ad.block≠g from hN _ hbS);have HKIND:=q_ hkind;generalize hfm:(M.flat (.mk x ks)).length=m at*;obtain⟨w1,hw1⟩:∃w1,w1=(w.alloc (.cells #[.pointer (some ⟨g,0,none⟩)] 71)).alloc (.cells #[.int .i64 0,.string ⟨#[]⟩,.int .i64 0,.bool false] 37):=⟨_,rfl⟩
 have s0:(w.alloc (.cells #[.pointer (some ⟨g,0,none⟩)] 71)).heap.size=w.heap.size+1:=by simp
 have s1:w1.heap.size=w.heap.size+2:=by rw[hw1];simp
 have PB1:=q_ (show Blk w1 w.heap.size 71 #[.pointer (some ⟨g,0,none⟩)] from hw1▸(Blk.new w _ _).alloc _);have RB1:=q_ (show Blk w1 (w.heap.size+1) 37 #[.int .i64 0,.string ⟨#[]⟩,.int .i64 0,.bool false] from hw1▸s0▸Blk.new _ _ _);have B1:=q_ (show Below w.heap.size w w1 from hw1▸((Below.refl _ w).alloc (n_) _).alloc (by omega) _);have KP:=q_ (parts_any x ks HWF.o (some ad) m cap N w1 (fun b h=>Nat.lt_of_lt_of_le (HN.o b h).1 B1.o.size) HOK.o (HL.o.below B1.o (fun b h=>(HN.o b h).1)));have hw1':=hw1.symm;clear hw1 hl0 hl hN hgb hp hwf hok hT hfl htop1 htop2 htop3 hkind he e0 hx64 hop s0;go_enter Tryz.func95,Tryz.ntmps95;go_wp2_with fail;refine KP.o.mono ?_;rintro e w3 ⟨A1,c1,A2,c2,rfl,hk1,hk2,hl1,hl2,hb3⟩;have P1:=q_ hl1;have OK1:=q_ hk1;have B3:=q_ (B1.o.trans (hb3.mono B1.o.size));have PB3:=q_ (PB1.o.below hb3 PB1.o.lt);have RB3:=q_ (RB1.o.below hb3 RB1.o.lt);have hs3:=hb3.size;have SW:=q_ (show∀b,(N b\/New w1 w3 b)->b<w3.heap.size/\b≠g from fun b h=>h.elim (fun h=>⟨Nat.lt_of_lt_of_le (HN.o b h).1 B3.o.size,(HN.o b h).2⟩) (fun h=>⟨h.2,by have:=HG.o;have:=h.1;omega⟩))
 clear hk1 hk2 hl1 hl2 hb3 hw1' KP;have hcap:ks.length<=c1:=by simpa using OK1.o.2.1
 generalize hn:ks.length=n0 at*;have HN0:=q_ hn;clear hn;have s4:(w3.alloc (.cells #[.slice none 0 0] 216)).heap.size=w3.heap.size+1:=by simp
 have AB4:=q_ ((Blk.new w3 216 #[.slice none 0 0]).alloc (.cells #[.int .i64 0,.int .i64 0,.string ⟨#[]⟩,.int .i64 0,.string ⟨#[]⟩,.int .i64 0,.int .i64 0,.int .i64 0,.int .i64 0,.int .i64 0] 144));have FB4:=q_ (s4▸Blk.new (w3.alloc (.cells #[.slice none 0 0] 216)) 144 #[.int .i64 0,.int .i64 0,.string ⟨#[]⟩,.int .i64 0,.string ⟨#[]⟩,.int .i64 0,.int .i64 0,.int .i64 0,.int .i64 0,.int .i64 0]);have B4:=q_ (((Below.refl _ w3).alloc (n_) (.cells #[.slice none 0 0] 216)).alloc (by omega) (.cells #[.int .i64 0,.int .i64 0,.string ⟨#[]⟩,.int .i64 0,.string ⟨#[]⟩,.int .i64 0,.int .i64 0,.int .i64 0,.int .i64 0,.int .i64 0] 144));have s5:((w3.alloc (.cells #[.slice none 0 0] 216)).alloc (.cells #[.int .i64 0,.int .i64 0,.string ⟨#[]⟩,.int .i64 0,.string ⟨#[]⟩,.int .i64 0,.int .i64 0,.int .i64 0,.int .i64 0,.int .i64 0] 144)).heap.size=w3.heap.size+2:=by simp
 clear s4;go_upto_if 20 with fail;generalize (w3.alloc (.cells #[.slice none 0 0] 216)).alloc (.cells #[.int .i64 0,.int .i64 0,.string ⟨#[]⟩,.int .i64 0,.string ⟨#[]⟩,.int .i64 0,.int .i64 0,.int .i64 0,.int .i64 0,.int .i64 0] 144)=w4 at AB4 FB4 B4 s5⊢;have S5:=q_ s5;clear s5;go_cut [] (fun wx=>Below w3.heap.size w3 wx/\w3.heap.size+2<=wx.heap.size/\(∃sv,Blk wx w3.heap.size 216 #[sv]/\OwnE EVal 37 wx 0 NoB sv []/\∀b,sv.ownBlock=some b->w3.heap.size+2<=b)/\Blk wx (w3.heap.size+1) 144 #[.int .i64 (M.headX ks).op,.int .i64 (M.headX ks).n,.string (M.headX ks).text,.int .i64 (M.headX ks).num,.string (M.headX ks).path.seg,.int .i64 (M.headX ks).path.occ,.int .i64 (M.headX ks).path.fld,.int .i64 (M.headX ks).path.rep,.int .i64 (M.headX ks).path.comp,.int .i64 (M.headX ks).path.sub])
 case first=>
  cases hks:ks with
  |nil=>
   subst hks;have hn0:n0=0:=HN0.o.symm;subst hn0;go_wp2_with fail;go_meet;exact⟨B4.o,by have:=S5.o;omega,⟨_,AB4.o,OwnE.nil (fun _ h=>h.elim),fun b h=>by simp[Value.ownBlock] at h⟩,FB4.o⟩
  |cons t0 tl=>
   subst hks;obtain⟨x0,ks0⟩:=t0;obtain⟨a1,y1,u1,rfl,hbS1,hy1,hr1,hc1⟩:=P1.o.in1 (k:=0) rfl (by have:=HN0.o;simp at this;omega);rw[add_0] at hc1;simp at hy1;subst hy1;obtain⟨At,ct,rfl,hokt,hlt1⟩:=Enc.list_inv (E:=ENode) hr1;have hl1:=hlt1;rw[show M.flat (.mk x0 ks0)=x0::M.flats ks0 by unfold M.flat;rfl] at hl1;obtain⟨ad0,rfl,hbS0,hx0,e00,he0⟩:=node_open hl1;have K:=fun(p:Addr) (h:p.block<w3.heap.size)=>B4.o.cell (p:=p) h;have h1:=(SW.o _ hbS1).1;have h0:=(SW.o _ hbS0).1;have d0:=(K a1 h1).trans hc1;have e0:=(K ad0 h0).trans e00;have e1:=(K ⟨ad0.block,ad0.off+1,none⟩ h0).trans (he0 0 _ rfl);have e2:=(K ⟨ad0.block,ad0.off+2,none⟩ h0).trans (he0 1 _ rfl);have e3:=(K ⟨ad0.block,ad0.off+3,none⟩ h0).trans (he0 2 _ rfl);have e4:=(K ⟨ad0.block,ad0.off+4,none⟩ h0).trans (he0 3 _ rfl);have e5:=(K ⟨ad0.block,ad0.off+5,none⟩ h0).trans (he0 4 _ rfl);have e6:=(K ⟨ad0.block,ad0.off+6,none⟩ h0).trans (he0 5 _ rfl);have e7:=(K ⟨ad0.block,ad0.off+7,none⟩ h0).trans (he0 6 _ rfl);have e8:=(K ⟨ad0.block,ad0.off+8,none⟩ h0).trans (he0 7 _ rfl);have e9:=(K ⟨ad0.block,ad0.off+9,none⟩ h0).trans (he0 8 _ rfl);have hp0:=M.flat_pos (.mk x0 ks0);clear hl1 hlt1 hr1 e00 he0 K hc1
   have hn0:0<n0:=by have:=HN0.o;simp at this;omega
   have q1:decide (0<n0)=true:=by simp;omega
   go_wp2_with (refine wpList_store_blk (cs':=#[.int .i64 x0.op,.int .i64 x0.n,.string x0.text,.int .i64 x0.num,.string x0.path.seg,.int .i64 x0.path.occ,.int .i64 x0.path.fld,.int .i64 x0.path.rep,.int .i64 x0.path.comp,.int .i64 x0.path.sub]) rfl 144 (.tmp 8) (.tmp 25) rfl (w3.heap.size+1) (by rfl) (by rfl) FB4.o rfl (by kernel_rfl) (by simp[Value.oneCell']) ?_;intro w5 k5 g5;have K5:=q_ k5;have G5:=q_ g5;clear k5 g5);go_meet;exact⟨below_gr B4.o G5.o (by omega),by have:=S5.o;have:=G5.o.size;omega,⟨_,AB4.o.grownAt G5.o (by omega),OwnE.nil (fun _ h=>h.elim),fun b h=>by simp[Value.ownBlock] at h⟩,K5.o⟩
 case rest=>
  obtain⟨hb5,hs5,⟨sv0,hab5,how5,hfar5⟩,hfb5⟩:=hcut;have OW5:=q_ how5;have FAR5:=q_ hfar5;clear how5 hfar5;have B5:=q_ hb5;have AB5:=q_ hab5;have FB5:=q_ hfb5;have S5':=q_ hs5;clear hb5 hs5 hab5 hfb5 AB4 FB4 B4 S5;have hx2:wc.cell? ⟨ad.block,ad.off+2,none⟩=some (.string x.text):=((B3.o.trans (B5.o.mono B3.o.size)).cell (p:=⟨ad.block,ad.off+2,none⟩) EAD.o.1).trans E2.o;have hks1:M.skips x.text=true->1<=ks.length:=fun h=>skips_one HOP.o HKIND.o h;have t1:=const_text x.text [101,120,105,115,116,115];have t2:=const_text x.text [99,111,117,110,116];have t3:=const_text x.text [108,111,111,107,117,112];have t4:=const_text x.text [104,97,115];have HSK:=q_ (show M.skips x.text=(M.eqT x.text (M.T [101,120,105,115,116,115])||M.eqT x.text (M.T [99,111,117,110,116])||M.eqT x.text (M.T [108,111,111,107,117,112])||M.eqT x.text (M.T [104,97,115])) from rfl);have HKS1:=q_ hks1;clear hks1;generalize M.eqT x.text (M.T [101,120,105,115,116,115])=b1 at*;generalize M.eqT x.text (M.T [99,111,117,110,116])=b2 at*;generalize M.eqT x.text (M.T [108,111,111,107,117,112])=b3 at*;generalize M.eqT x.text (M.T [104,97,115])=b4 at*
  obtain⟨R,hR⟩:∃R,R=if M.skips x.text=true then ks.tail else ks:=⟨_,rfl⟩
  obtain⟨a0,ha0⟩:∃a0,a0=if M.skips x.text=true then[M.vNone] else[]:=⟨_,rfl⟩
  have HR:=q_ hR;have HA0:=q_ ha0;clear hR ha0;rename_i aC;refine aC _ _ ?_;clear aC;refine wp_seq_k fun K hK=> ?_;obtain⟨itV,hitV,hzV,hsV,hbV⟩:=info_parts info_val;have J1:=q_ hitV;have J2:=q_ hzV;have J3:=q_ hsV;have J4:=q_ hbV;clear hitV hzV hsV hbV
  go_cut [5] (fun y wx=>∃(A5:Option Addr) (c5:Nat) (sv:Value),y= .slice A5 R.length c5/\R.length<=c5/\LAt ENodes w3 (fun b=>N b\/New w1 w3 b) A5 R.length (R.map M.flat)/\Blk wx w3.heap.size 216 #[sv]/\OwnE EVal 37 wx 0 NoB sv a0/\
   Blk wx (w3.heap.size+1) 144 #[.int .i64 (M.headX ks).op,.int .i64 (M.headX ks).n,.string (M.headX ks).text,.int .i64 (M.headX ks).num,.string (M.headX ks).path.seg,.int .i64 (M.headX ks).path.occ,.int .i64 (M.headX ks).path.fld,.int .i64 (M.headX ks).path.rep,.int .i64 (M.headX ks).path.comp,.int .i64 (M.headX ks).path.sub]/\Below w3.heap.size w3 wx/\w3.heap.size+2<=wx.heap.size/\∀b,sv.ownBlock=some b->w3.heap.size+2<=b)
  case first=>
   rcases(show b1=true\/(b1=false/\b2=true)\/(b1=false/\b2=false/\b3=true)\/(b1=false/\b2=false/\b3=false/\b4=true)\/(b1=false/\b2=false/\b3=false/\b4=false) by cases b1<;>cases b2<;>cases b3<;>cases b4<;>simp) with rfl|⟨rfl,rfl⟩|⟨rfl,rfl,rfl⟩|⟨rfl,rfl,rfl,rfl⟩|⟨rfl,rfl,rfl,rfl⟩
   rotate_left 4
   ·skip
    have HSKT:=q_ (show¬M.skips x.text=true by rw[HSK.o];decide);have hRk:R=ks:=by rw[HR.o,if_neg HSKT.o]
    have hRl:R.length=n0:=by rw[hRk];exact HN0.o
    have hA0:a0=[]:=by rw[HA0.o,if_neg HSKT.o]
    have PT:=q_ (show LAt ENodes w3 (fun b=>N b\/New w1 w3 b) A1 R.length (R.map M.flat) by rw[hRl,hRk];exact P1.o);have HRL:=q_ hRl;have HT0:=q_ hA0;clear HSK hRk hRl hA0;go_wp2_with fail;go_meet;exact⟨_,_,_,by rw[HRL.o],by rw[HRL.o];exact hcap,PT.o,AB5.o,by rw[HT0.o];exact OW5.o,FB5.o,B5.o,S5'.o,FAR5.o⟩
   all_goals
    have HSKT:=q_ (show M.skips x.text=true by rw[HSK.o];rfl);clear HSK
    obtain⟨t0,tl,hks⟩:∃t0 tl,ks=t0::tl:=by
     cases hq:ks with
     |nil=>have:=HKS1.o HSKT.o;rw[hq] at this;simp at this
     |cons t0 tl=>exact⟨_,_,rfl⟩
    have hRt:R=tl:=by rw[HR.o,if_pos HSKT.o,hks];rfl
    have hRl:R.length=n0-1:=by have:=HN0.o;rw[hks] at this;rw[hRt,<-this];rfl
    have hA0:a0=[M.vNone]:=by rw[HA0.o,if_pos HSKT.o]
    have hn1:1<=n0:=by have:=HKS1.o HSKT.o;have:=HN0.o;omega
    obtain⟨a1,ha1⟩:∃a1,A1=some a1:=by
     obtain⟨ad,e,_⟩:=P1.o.2 (by omega);exact⟨ad,e⟩
    subst ha1
    have PT:=q_ (show LAt ENodes w3 (fun b=>N b\/New w1 w3 b) (some ⟨a1.block,a1.off+1,none⟩) R.length (R.map M.flat) from by
     have h:=P1.o;rw[hks,List.map_cons,show n0=R.length+1 by omega] at h;rw[hRt] at h⊢;exact h.tail rfl)
    have HT0:=q_ (show a0=[]++[M.vNone] by rw[hA0];rfl);have HRL:=q_ hRl;clear hRt hks hA0 hRl;have za:=AB5.o.cell;have AB6:=q_ (AB5.o.alloc (.cells #[.int .i64 0,.string ⟨#[]⟩,.int .i64 0,.bool false] 37));have FB6:=q_ (FB5.o.alloc (.cells #[.int .i64 0,.string ⟨#[]⟩,.int .i64 0,.bool false] 37));have OW6:=q_ (OW5.o.alloc (.cells #[.int .i64 0,.string ⟨#[]⟩,.int .i64 0,.bool false] 37));have NB6:=q_ (Blk.new wc 37 #[.int .i64 0,.string ⟨#[]⟩,.int .i64 0,.bool false]);have B6:=q_ (B5.o.alloc B5.o.size (.cells #[.int .i64 0,.string ⟨#[]⟩,.int .i64 0,.bool false] 37));have s6:(wc.alloc (.cells #[.int .i64 0,.string ⟨#[]⟩,.int .i64 0,.bool false] 37)).heap.size=wc.heap.size+1:=by simp
    have S6:=q_ s6;clear s6;by_cases hc:c1=1;subst hc;obtain rfl:n0=1:=by omega
    all_goals
     have skip1:True:=trivial
     go_wp2_with (first
      |(refine wpList_append_E rfl (.tmp 35) (.tmp 37) _ rfl itV _ 40 Tryz.underlying216 J1.o J2.o J3.o J4.o rfl rfl OW6.o ⟨wc.heap.size,0,none⟩ 1 1 [M.vNone] rfl rfl (news_blk NB6.o ⟨rfl,by decide⟩) (by simp) (by omega) (by omega) ?_
        intro o7 w7 hown7 _ hg7 ho7;have OW7:=q_ hown7;have AB7:=q_ (AB6.o.grown hg7 (fun e=>by have:=FAR5.o _ e.symm;omega));have FB7:=q_ (FB6.o.grown hg7 (fun e=>by have:=FAR5.o _ e.symm;omega));have B7:=q_ (B6.o.grown hg7 B6.o.size (fun k e=>by have:=FAR5.o _ e;omega))
        have FAR7:=q_ (show∀b,o7.ownBlock=some b->w3.heap.size+2<=b from fun b e=>by
         rcases ho7 with h|h
         ·exact FAR5.o b (h.symm.trans e)
         ·rw[h] at e;injection e with e;have:=S6.o;have:=S5'.o;omega)
        have G7:=q_ hg7.size;clear hown7 hg7 ho7;obtain⟨A7,c7,e7⟩:=OW7.o.shape;subst e7;have z7:=AB7.o.cell;have f7:=AB7.o.frozen)
      |fail)
     go_meet;have AB8:=AB7.o.one_set (.slice A7 1 c7);have g8:=grown_set w7 w3.heap.size 0 (.slice A7 1 c7);have OW8:=OW7.o.grownAt g8 (fun e=>by have:=FAR7.o _ e;omega) (fun h=>h);have FB8:=FB7.o.grownAt g8 (by omega);have B8:=below_gr B7.o g8 (n_);have OW9:OwnE EVal 37 (w7.setCell ⟨w3.heap.size,0,none⟩ (.slice A7 1 c7)) 0 NoB (.slice A7 1 c7) a0:=by rw[HT0.o];exact OW8
     first
     |exact⟨_,_,_,by rw[HRL.o],by rw[HRL.o];exact n_,by rw[HRL.o];exact⟨by simp[HRL.o],fun h=>absurd h (Nat.lt_irrefl 0)⟩,AB8,OW9,FB8,B8,by have:=g8.size;have:=G7.o;have:=S6.o;have:=S5'.o;omega,FAR7.o⟩
     |exact⟨_,_,_,by rw[HRL.o],by rw[HRL.o];omega,PT.o,AB8,OW9,FB8,B8,by have:=g8.size;have:=G7.o;have:=S6.o;have:=S5'.o;omega,FAR7.o⟩
  case rest=>
   obtain⟨A5,c5,sv5,rfl,hc5,hl5,hab,how,hfb,hb6,hs6,hfar⟩:=hcut;have PL:=q_ hl5;have AB6:=q_ hab;have OW6:=q_ how;have FB6:=q_ hfb;have B6:=q_ hb6;have S6:=q_ hs6;have FAR6:=q_ hfar;have HX0:=q_ (show(M.headX ks).ok64 from headX_ok (by rw[HN0.o];exact P1.o));obtain⟨f,hf,hfl,hft,hkids⟩:=call_facts HOP.o HKIND.o;have HF:=q_ hf;have HFL:=q_ hfl;have HFT:=q_ hft
   have HKID:=q_ (show∀(j:Nat) (t:M.Tree),R[j]? =some t->M.okT d 3 t=true/\M.wfT t/\∃seg k,M.kindE (tnames c.tables) env d seg t= .ok k from fun j t hj=>by
    have hw:∀i,M.wanted x i=3:=fun i=>by unfold M.wanted;rw[HOP.o,if_neg (by omega),if_neg (by omega)]
    rw[HR.o] at hj;split at hj
    ·have hj2:ks[j+1]? =some t:=by cases hq:ks with|nil=>rw[hq] at hj;simp at hj|cons a b=>rw[hq] at hj;simpa using hj
     exact⟨by have:=okT_kid (i:=j+1) (t:=t) HT.o hj2;rwa [hw] at this,M.wfL_get (k:=j+1) HWFL.o hj2,hkids (j+1) t hj2⟩
    ·exact⟨by have:=okT_kid (i:=j) (t:=t) HT.o hj;rwa [hw] at this,M.wfL_get (k:=j) HWFL.o hj,hkids j t hj⟩)
   have HLEN0:=q_ (show a0.length+R.length=ks.length by
    rw[HA0.o,HR.o];split
    ·rename_i h1
     have:=HKS1.o h1;cases hq:ks with
     |nil=>rw[hq] at this;simp at this
     |cons a b=>simp;omega
    ·simp)
   have HV0:=q_ (show∀v∈a0,VOk v by
    rw[HA0.o];split
    ·intro v hv;simp at hv;rw[hv];exact vNone_ok
    ·intro v hv;cases hv)
   have HRLE:=q_ (show R.length<=1048576 by have:=HLEN0.o;have:=HN0.o;omega);clear hl5 hab how hfb hb6 hs6 hfar hf hfl hft hkids hx2 t1 t2 t3 t4 B5 AB5 OW5 FAR5 FB5 S5' HSK;go_wp2_with fail
   go_loopw [43] (fun y wr=>∃(k K:Nat) (vs:List M.Val) (sv:Value),k<=R.length/\y= .int .i64 k/\u+K<=F/\OnlyG g w3 wr/\w3.heap.size+2<=wr.heap.size/\Blk wr w3.heap.size 216 #[sv]/\OwnE EVal 37 wr 0 NoB sv (a0++vs)/\(∀b,sv.ownBlock=some b->w3.heap.size+2<=b)/\Blk wr (w3.heap.size+1) 144 #[.int .i64 (M.headX ks).op,.int .i64 (M.headX ks).n,.string (M.headX ks).text,.int .i64 (M.headX ks).num,.string (M.headX ks).path.seg,.int .i64 (M.headX ks).path.occ,.int .i64 (M.headX ks).path.fld,.int .i64 (M.headX ks).path.rep,.int .i64 (M.headX ks).path.comp,.int .i64 (M.headX ks).path.sub]/\Blk wr g 77 (p.cells F (u+K))/\vs.length=k/\(∀v∈a0++vs,VOk v)/\
    M.valsL (M.evalE c st.m st.scopes d) R=M.pre vs K (M.valsL (M.evalE c st.m st.scopes d) (R.drop k))) (fun y _=>R.length-(intOf y).toNat)
   case atStart=>exact⟨0,0,[],sv5,by omega,rfl,by omega,Turns.of B6.o,S6.o,AB6.o,by rw[List.append_nil];exact OW6.o,FAR6.o,FB6.o,(HGB.o.below B3.o HGB.o.lt).below B6.o (Nat.lt_of_lt_of_le HG.o B3.o.size),rfl,by rw[List.append_nil];exact HV0.o,by rw[List.drop_zero,M.pre_nil]⟩
   case round=>
    obtain⟨k,K,vs,sv,hk,rfl,huK,hog,hsz,hab,how,hfar,hfb,hgb,hvl,hvok,hlaw⟩:=hrel;have OGR:=q_ hog;have SZR:=q_ hsz;have ABR:=q_ hab;have OWR:=q_ how;have FARR:=q_ hfar;have FBR:=q_ hfb;have GBR:=q_ hgb;have HVL:=q_ hvl;have HVOK:=q_ hvok;have LAWR:=q_ hlaw;have OGW:=q_ (show OnlyG g w wr from(show OnlyG g w w3 from Turns.of B3.o).tr hog);have PIR:=q_ (HP.o.only OGW.o);have PBR:=q_ (hog.blk PB3.o (by have:=HG.o;omega));have PLR:=q_ (hog.lat PL.o SW.o);have SWR:=q_ (show∀b,(N b\/New w1 w3 b)->b<wr.heap.size/\b≠g from fun b h=>⟨Nat.lt_of_lt_of_le (SW.o b h).1 hog.size,(SW.o b h).2⟩);have HG3:=q_ (show g<w3.heap.size from Nat.lt_of_lt_of_le HG.o B3.o.size);clear hog hsz hab how hfar hfb hgb hvl hvok hlaw;by_cases hlt:k<R.length
    ·have q1:decide ((k:Int)<(R.length:Int))=true:=by simp;omega
     obtain⟨t,htk⟩:∃t,R[k]? =some t:=⟨_,List.getElem?_eq_getElem hlt⟩
     obtain⟨b1,y1,u1,eb1,hbS1,hy1,hr1,hd1⟩:=PLR.o.in1 (k:=k) rfl (by omega);subst eb1;simp[htk] at hy1;subst hy1;obtain⟨At,ct,rfl,hokt,hlt1⟩:=Enc.list_inv (E:=ENode) hr1;obtain⟨ht1,ht2,seg2,k2,ht3⟩:=HKID.o k t htk;have EX:=q_ (fun(W:World) (hW:OnlyG g wr W) (hb:Blk W g 77 (p.cells F (u+K)))=>hex t g Mu S (fun b=>N b\/New w1 w3 b) c st p bs F (u+K) env seg2 k2 At ct W ht1 ht2 ht3 (PIR.o.only hW) hb hF huK (fun b h=>⟨Nat.lt_of_lt_of_le (SWR.o b h).1 hW.size,(SWR.o b h).2⟩) hokt (hW.lat hlt1 SWR.o))
     have LAWT:=q_ (show M.valsL (M.evalE c st.m st.scopes d) (if M.skips x.text=true then ks.tail else ks)=M.pre vs K (M.valsL (M.evalE c st.m st.scopes d) (t::R.drop (k+1))) by
      obtain⟨h1,rfl⟩:=List.getElem?_eq_some_iff.1 htk;rw[<-HR.o,LAWR.o,List.drop_eq_getElem_cons h1])
     have HT1:=q_ ht1;clear hr1 hlt1 ht1 ht2 ht3 htk hokt;cases hcu:M.cut F (u+K) (M.evalE c st.m st.scopes d t) with
     |mk res u2=>
     rw[hcu] at EX;cases res with
     |error er=>
      have HERR:=q_ (cut_err LAWT.o hcu);clear hcu;go_wp2_with fail;refine wp_region_genP (KP:=fun ch w5=>panE er= .panicked ch/\OnlyG g wr w5/\Blk w5 g 77 (p.cells F u2)) 5 [] (ErrI wr 3) (by kernel_rfl) (by kernel_rfl) (ErrI.start wr 3) (fun ch a2 w5 hd hk=>⟨hd,OGW.o.tr hk.2.1,by rw[HERR.o];exact hk.2.2,by rw[HERR.o];exact hk.1.symm⟩) ?_
      iterate 3
       apply wpGenP_pure rfl
       ·intro L vs wx hI hR hL K hK
        first
        |have c0:=(ABR.o.below hI.below ABR.o.lt).cell
         go_simp;exact hK _ (hI.pure (by decide))
        |have c0:=(PBR.o.below hI.below PBR.o.lt).cell
         go_simp;exact hK _ (hI.pure (by decide))
       intro KK hKK;go_simp;refine hKK _ ?_;clear hKK KK
      refine wpGenP_pure (v:=undef) rfl ?_ ?_
      ·intro L vs wx hI hR hL K hK
       go_simp;exact(EX.o wx (Turns.of hI.below) (GBR.o.below hI.below GBR.o.lt)).mono fun e w' ⟨h1,h2,h3⟩=> .inr ⟨_,h3,rfl,(show OnlyG g wr wx from Turns.of hI.below).tr h1,h2⟩
      intro KK hKK;go_simp;refine hKK _ ?_;clear hKK KK;refine wpGenP_pure (v:=undef) rfl (fun L vs wx hI hR=>absurd (hR 3 (by kernel_rfl)) (by rw[hI.no];simp)) ?_;intro KK hKK;refine hKK _ ?_;clear hKK KK;refine wpGenP_nil ?_;intro vs w5 hI;exact absurd hI.no (by decide)
     |ok v=>
      obtain⟨kk,hft,hu2,hle⟩:=cut_val hcu;have HVV:=q_ (hvals t c st v kk HT1.o HP.o.vals HP.o.nowOk HP.o.tabsOk HP.o.segs hft);have LAW2:=q_ (LAWT.o.trans (M.pre_ok hft));have HU2:=q_ hu2;clear hcu hft;go_wp2_with fail;refine wp_region_genP (KP:=fun _ _=>False) 5 [4] (GI wr g p F (u+K) u2 v) (by kernel_rfl) (by kernel_rfl) (GI.start GBR.o) (fun ch a2 w5 hd hk=>hk.elim) ?_
      iterate 3
       apply wpGenP_pure rfl
       ·intro L vs wx hI hR hL K hK
        first
        |have c0:=(hI.turns.blk ABR.o (by have:=HG3.o;omega)).cell
         go_simp;exact hK _ (hI.pure (by decide) (by decide))
        |have c0:=(hI.turns.blk PBR.o (by have:=HG.o;omega)).cell
         go_simp;exact hK _ (hI.pure (by decide) (by decide))
       intro KK hKK;go_simp;refine hKK _ ?_;clear hKK KK
      refine wpGenP_pure (v:=valV v) rfl ?_ ?_
      ·intro L vs wx hI hR hL K hK
       go_simp;exact(EX.o wx hI.turns (by have:=hI.blk;rwa [if_neg (by rw[hL];decide)] at this)).mono fun e w' ⟨h1,h2,h3⟩=>⟨_,h3,hK _ (hI.call (Nat.lt_of_lt_of_le HG3.o OGR.o.size) h1 h2)⟩
      intro KK hKK;go_simp;refine hKK _ ?_;clear hKK KK;refine wpGenP_fact rfl ?_ ?_
      ·intro L vs wx hI hR hL K hK
       unfold valV;go_simp;exact hK _ _ hI.make
      intro KK hKK;go_simp;refine hKK _ ?_;clear hKK KK;refine wpGenP_nil ?_;intro vs5 w5 hI;obtain⟨q,hq,hqge,hkq⟩:=hI.one (by decide);have T5:=q_ hI.turns;have G5:=q_ (show Blk w5 g 77 (p.cells F u2) from hI.blk);have KQ:=q_ hkq;have OW5:=q_ (hI.turns.own OWR.o (fun e=>by have:=FARR.o _ e;have:=HG3.o;omega));have AB5:=q_ (hI.turns.blk ABR.o (by have:=HG3.o;omega));have FB5:=q_ (hI.turns.blk FBR.o (by have:=HG3.o;omega));have hs5:=hI.turns.size;intro KK hKK;have hKN:=fun a w h=>hKK .normal a w h;clear hKK;rw[hq];clear hI hq hkq hqge;simp only[List.drop_succ_cons];have hl0:(a0++vs).length<=1048576:=by rw[List.length_append];have:=HLEN0.o;have:=HN0.o;have:=HVL.o;omega
      refine wpList_append_E rfl (.tmp 47) (.tmp 51) _ rfl itV _ 40 Tryz.underlying216 J1.o J2.o J3.o J4.o rfl rfl OW5.o ⟨q,0,none⟩ 1 1 [v] rfl rfl (news_blk KQ.o ⟨rfl,HVV.o.text⟩) (by omega) (by omega) (by omega) ?_;intro o6 w6 hown6 _ hg6 ho6;have OW6':=q_ hown6;have AB6':=q_ (AB5.o.grown hg6 (fun e=>by have:=FARR.o _ e.symm;omega));have FB6':=q_ (FB5.o.grown hg6 (fun e=>by have:=FARR.o _ e.symm;omega));have G6:=q_ (G5.o.grown hg6 (fun e=>by have:=FARR.o _ e.symm;have:=HG3.o;omega))
      have FAR6':=q_ (show∀b,o6.ownBlock=some b->w3.heap.size+2<=b from fun b e=>by
       rcases ho6 with h|h
       ·exact FARR.o b (h.symm.trans e)
       ·rw[h] at e;injection e with e;have:=SZR.o;omega)
      have T6:=q_ (show OnlyG g w3 w6 from Turns.grownO (OGR.o.tr T5.o) (fun b e hb=>by have:=FARR.o _ e;omega) hg6);have S6':=q_ hg6.size;clear hown6 hg6 ho6;obtain⟨A6,c6,e6⟩:=OW6'.o.shape;subst e6;refine wpList_store_cell rfl 216 (.tmp 7) (.tmp 52) rfl w3.heap.size 0 (.slice A6 (a0++vs++[v]).length c6) _ (by rfl) (by rfl) (AB6'.o.cell 0) (AB6'.o.frozen 0) (by kernel_rfl) (by rfl) ?_;intro w7 hw7;have g7:w6.grownBy w7 (some w3.heap.size):=hw7▸grown_set w6 w3.heap.size 0 _;have AB7:=q_ (show Blk w7 w3.heap.size 216 #[.slice A6 (a0++vs++[v]).length c6] from hw7▸AB6'.o.one_set _);have OW7:=q_ (OW6'.o.grownAt g7 (fun e=>by have:=FAR6'.o _ e;omega) (fun h=>h));have FB7:=q_ (FB6'.o.grownAt g7 (by omega));have G7:=q_ (G6.o.grownAt g7 (by have:=HG3.o;omega));have T7:=q_ (show OnlyG g w3 w7 from T6.o.grown (fun h=>by omega) g7);have S7:=q_ g7.size
      have LAW3:=q_ (show M.valsL (M.evalE c st.m st.scopes d) R=M.pre (vs++[v]) (K+kk) (M.valsL (M.evalE c st.m st.scopes d) (R.drop (k+1))) by
       have:=LAW2.o
       rwa [<-HR.o] at this)
      have VOK7:=q_ (show∀z∈a0++(vs++[v]),VOk z from fun z hz=>by
       rw[<-List.append_assoc] at hz;rcases List.mem_append.1 hz with h|h
       ·exact HVOK.o z h
       ·simp at h;rw[h];exact HVV.o)
      clear hw7 g7;have hlt2:k+1<=R.length:=hlt;have hrle:=HRLE.o;go_wp2;go_roundw
      case rel=>exact⟨k+1,K+kk,vs++[v],.slice A6 (a0++vs++[v]).length c6,hlt2,by go_num,hle,T7.o,by have:=S7.o;have:=S6'.o;have:=SZR.o;omega,AB7.o,by rw[<-List.append_assoc];exact OW7.o,FAR6'.o,FB7.o,by have:=HU2.o;rw[this] at G7;exact G7.o,by rw[List.length_append,HVL.o];rfl,VOK7.o,LAW3.o⟩
      case measure=>simp[intOf];omega
    ·obtain rfl:k=R.length:=by omega
     have q1:decide ((R.length:Int)<(R.length:Int))=false:=by simp
     have HCUT:=q_ (show M.cut F u (M.callR c st.m st.scopes d x ks)=(M.callV c st.m x.text (M.headX ks) (a0++vs),u+K) by
      have h1:M.valsL (M.evalE c st.m st.scopes d) (if M.skips x.text=true then ks.tail else ks)=(.ok vs,K):=by
       rw[<-HR.o,LAWR.o,List.drop_length,M.pre_end]
      rw[callR_end h1 HA0.o,M.cut_le huK])
     have hmm:= @run_makeMap Tryz.prog;have hmf:∀(fn:Fn) (first cap:Array Value) (w:World),(Instr.makeFunc fn first cap).run Tryz.prog w= .ok (.func fn first cap) w:=fun _ _ _ _=>rfl;have HM:=q_ (AssT.made 9 Value.string wr);have HB:=q_ ((Below.refl _ wr).alloc (n_) (.map #[] 0))
     go_wp2_with (first
      |(refine wpList_insert_U (by rfl) _ _ _ _ _ (by rfl) Tryz.underlying232 str_law str_inj _ _ _ HM.o (by rfl) (by rfl) (by rfl) ⟨_,str_key _ (by decide)⟩ ?_;intro wm hm1 hg1;have HB:=q_ (below_gr HB.o hg1 (n_));have HM:=q_ hm1;clear hm1 hg1
        (try clear hx2);have hx2:wm.cell? ⟨ad.block,ad.off+2,none⟩=some (.string x.text):=((show OnlyG g w wm from OGW.o.tr (Turns.of HB.o)).cell (p:=⟨ad.block,ad.off+2,none⟩) EAD.o.1 EAD.o.2).trans E2.o
        try
         have hlst:AssT 9 Value.string wm wr.heap.size (fnLst w.heap.size (w3.heap.size+1) w3.heap.size):=HM.o;have PB9:=q_ (PBR.o.below HB.o PBR.o.lt);have AB9:=q_ (ABR.o.below HB.o ABR.o.lt);have FB9:=q_ (FBR.o.below HB.o FBR.o.lt);have GB9:=q_ (GBR.o.below HB.o GBR.o.lt);have PI9:=q_ (PIR.o.below HB.o);have OW9:=q_ (OWR.o.below HB.o);have RB9:=q_ ((OGR.o.blk RB3.o (by have:=HG.o;omega)).below HB.o (Nat.lt_of_lt_of_le RB3.o.lt OGR.o.size));have OG9:=q_ (show OnlyG g w wm from OGW.o.tr (Turns.of HB.o));obtain⟨fid,caps,hass,hent,hcall⟩:=disp_any g w.heap.size (w3.heap.size+1) w3.heap.size Mu S c st p bs F (u+K) x.text (M.headX ks) f _ (a0++vs) wm HF.o (by rw[List.length_append,HVL.o,HLEN0.o,HFL.o]) HFT.o PB9.o FB9.o GB9.o PI9.o HX0.o AB9.o OW9.o HVOK.o;have hl:=AssT.look hlst str_law Tryz.underlying232 str_inj (str_key x.text hts) (Tryz.zeroValue217 wm) hass;have HCALL:=q_ hcall;have heg:∀args w,(callFunc fid args).run Tryz.prog w= .ok (.enter fid args) w:=hent;clear hass hent hcall hlst)
      |fail)
     refine HCALL.o.mono ?_;rintro e w9 ⟨he,hb⟩;have RBA:=q_ (RB9.o.below hb RB9.o.lt);have GBA:=q_ (GB9.o.below hb GB9.o.lt);have OGA:=q_ (show OnlyG g w w9 from OG9.o.tr (Turns.of hb));have HE:=q_ he;clear hb he hl hx2;cases hr:M.callV c st.m x.text (M.headX ks) (a0++vs) with
     |error er=>
      rw[hr] at HE HCUT;obtain rfl:=HE.o;clear hr;unfold valE panE;go_wp2;exact⟨rfl,OGA.o,by rw[HCUT.o];exact GBA.o,by rw[HCUT.o];rfl⟩
     |ok v=>
      rw[hr] at HE HCUT;obtain rfl:=HE.o;clear hr;unfold valE;go_wp2_with (refine wpList_store_V rfl (.tmp 4) (.tmp 77) rfl (w.heap.size+1) v (by rfl) (by rfl) RBA.o rfl ?_;intro wA kA gA;have KA:=q_ kA;have GA:=q_ gA;clear kA gA)
      (try simp only[Exit.inBlock,Exit.then]);exact bodyPost_ret (val_res rfl KA.o rfl) rfl ⟨OGA.o.grown (fun h=>by omega) GA.o,by rw[HCUT.o];exact GBA.o.grownAt GA.o (by have:=HG.o;omega),by rw[HCUT.o];rfl⟩
end Go.Proofs.YtnocnbklhikmnaaGreatDoor
