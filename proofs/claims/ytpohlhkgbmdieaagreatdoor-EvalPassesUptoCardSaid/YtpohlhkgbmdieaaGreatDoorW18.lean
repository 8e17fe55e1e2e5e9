/- Part 18 of the proof. -/
import Derived.Test.YtpohlhkgbmdieaaGreatDoorW17
set_option linter.unusedVariables false
set_option maxRecDepth 1000000
set_option maxHeartbeats 16000000
namespace Go.Proofs.YtpohlhkgbmdieaaGreatDoor
variable{A:Option Addr}{α:Type}{E:aU α}{Q:Exit->Act->World->Prop}{S:Nat->Prop}{a:Act}{m mb n:Nat}{o:Oper}{ops:Array Oper}{rest:List Oper}{v:Value}{w w':World}{xs:List α}
section
open Go Go.RowKit Go.BigFrame
theorem bn.drop{ad:Addr}(h:bn E w S (some ad) m xs)(j:Nat):bn E w S (some (ad.add (j*E.n))) (m-j) (xs.drop j):=by
 refine⟨by rw[List.length_drop,h.1],fun hm=> ?_⟩;obtain⟨a,e,hb,he⟩:=h.2 (by omega);cases e;refine⟨_,rfl,by rw[az];exact hb,fun i x hx=> ?_⟩;rw[List.getElem?_drop] at hx;obtain⟨cs,hr,hi⟩:=he _ x hx;refine⟨cs,hr,fun l u hu=> ?_⟩;have:=hi l u hu
 rwa [ko,show j*E.n+(i*E.n+l)=(j+i)*E.n+l by rw[Nat.add_mul];omega]
theorem bn.front(h:bn E w S A m xs)(j:Nat)(hj:j<=m):bn E w S A j (xs.take j):=by
 refine⟨by rw[List.length_take,h.1];omega,fun hm=> ?_⟩;obtain⟨a,e,hb,he⟩:=h.2 (by omega);refine⟨a,e,hb,fun i x hx=> ?_⟩
 have GL:i<j:=by
  have:=(g_ hx).1;rw[List.length_take] at this;omega
 rw[List.getElem?_take_of_lt GL] at hx;exact he i x hx
theorem aD.grown{T:TypeId}{B:Nat}{row:Option Nat}(h:aD E T w B S v xs)(hg:w.grownBy w' row)(hne:∀g,v.ownBlock=some g->row≠some g)(hS:∀g,row=some g->¬S g:=by intro _ _ h;exact h.elim):aD E T w' B S v xs:=
 h.stay hg.size (fun k hk hc=>hg.block k hk (fun e=>hc.elim (fun hs=>hS k e.symm hs) (fun hv=>hne k hv e.symm)))
theorem yH{v' u:Value}(h:v'.ownBlock=v.ownBlock\/v'.ownBlock=some n)(hne:∀g,v.ownBlock=some g->u.ownBlock≠some g)(hu:∀g,u.ownBlock=some g->g<n):∀g,v'.ownBlock=some g->u.ownBlock≠some g:=by
 intro g hg e;rcases h with h|h
 ·exact hne g (h▸hg) e
 ·rw[hg] at h
  injection h with h;have:=hu g e;omega
theorem iU(a:Addr):a.add 0=a:=by unfold Addr.add;simp
namespace M
def placeOf(ks:List Tree)(j:Nat):Nat:=1+(bB (ks.take j)).length
def places(ks:List Tree):List Int:=(List.range ks.length).map fun j=>(placeOf ks j:Int)
theorem pS(a b:List Tree):bB (a++b)=bB a++bB b:=by
 induction a with
 |nil=>simp[bB]
 |cons t l ih=>simp[bB,ih]
theorem si{ks:List Tree}{k:Nat}{t:Tree}(h:ks[k]? =some t):bB ks=bB (ks.take k)++(flat t++bB (ks.drop (k+1))):=by
 have hk:=(g_ h).1
 have e:ks=ks.take k++(t::ks.drop (k+1)):=by
  have:=List.take_append_drop k ks;rw[List.drop_eq_getElem_cons hk] at this;rw[(g_ h).2] at this;exact this.symm
 conv=>lhs;rw[e]
 rw[pS];rfl
theorem AU{ks:List Tree}{k:Nat}{t:Tree}(h:ks[k]? =some t):placeOf ks (k+1)=placeOf ks k+(flat t).length:=by
 unfold placeOf;rw[List.take_add_one,h,pS];simp[bB];omega
theorem Hg{x:Node}{ks:List Tree}{k:Nat}{t:Tree}(h:ks[k]? =some t):(flat (.mk x ks)).drop (placeOf ks k)=flat t++bB (ks.drop (k+1)):=by
 unfold placeOf;rw[show flat (.mk x ks)=x::bB ks by unfold flat;rfl,Nat.add_comm,List.drop_succ_cons,si h,List.drop_left]
theorem Py{x:Node}{ks:List Tree}{k:Nat}{t:Tree}(h:ks[k]? =some t):placeOf ks k+(flat t).length<=(flat (.mk x ks)).length:=by
 rw[show flat (.mk x ks)=x::bB ks by unfold flat;rfl,List.length_cons,si h];unfold placeOf;simp;omega
theorem eC(t:Tree):0<(flat t).length:=by
 cases t;unfold flat;simp
theorem dx:∀l:List Tree,l.length<=(bB l).length
 |[]=>by simp
 |t::l=>by have:=eC t;have:=dx l;simp[bB];omega
theorem cw:∀{ks:List Tree} {k:Nat} {t:Tree},pz ks->ks[k]? =some t->mh t
 |[],k,t,_,h=>by simp at h
 |s::l,0,t,hw,h=>by
  unfold pz at hw;simp at h;exact h▸hw.1
 |s::l,k+1,t,hw,h=>by
  unfold pz at hw;exact cw hw.2 (by simpa using h)
end M
theorem Hh:(Tryz.prog.info? 22).map (fun i=>(i.zero,i.size,i.bytes))=some (some (.slice none 0 0),1,24):=by kernel_rfl
theorem vy:(Tryz.prog.info? 3).map (fun i=>(i.zero,i.size,i.bytes))=some (some (.int .i64 0),1,8):=by kernel_rfl
theorem fh(x:M.Node)(ks:List M.Tree)(ht:M.mh (.mk x ks))(A:Option Addr)(m c:Nat)(S:Nat->Prop)(w:World)(hS:∀b,S b->b<w.heap.size)(aI:bX A m c)(hl:bn ENode w S A m (M.flat (.mk x ks))):
 Calls Tryz.prog 76 #[.slice A m c] w fun e w'=>∃A1 c1 A2 c2,e= .returned (.tuple #[.slice A1 ks.length c1,.slice A2 ks.length c2])/\bX A1 ks.length c1/\bX A2 ks.length c2/\bn jB w' (fun b=>S b\/New w w' b) A1 ks.length (ks.map M.flat)/\bn Tq w' (New w w') A2 ks.length (M.places ks)/\Below w.heap.size w w':=by
 have hm:=aI.le;have dC:=aI.2.1;have hcm:=aI.2.2.2;have hn:=hl.1;have hx:x.n=(ks.length:Int)/\M.pz ks:=by unfold M.mh at ht;exact ht
 obtain⟨it1,jaF,hz1,hs1,hb1⟩:=info_parts Hh;obtain⟨ZK,DJ,hz2,hs2,hb2⟩:=info_parts vy;have sT:=M.eC (.mk x ks);obtain⟨ad,x0,cs0,rfl,hb,hx0,r6,hc0⟩:=hl.NY (k:=0) (by omega);rw[show M.flat (.mk x ks)=x::M.bB ks by unfold M.flat;rfl] at hx0;cases hx0;obtain⟨rfl,-⟩:=ENode.inv r6
 have hc1:w.cell? ⟨ad.block,ad.off+1,none⟩=some (.int .i64 x.n):=by
  have:=hc0 1 _ rfl;rw[show ENode.n=10 from rfl,iO 1 (by omega),Nat.zero_mul,iU] at this;exact this
 rw[hx.1] at hc1;have FA:0<m:=by omega
 have HL:=q_ hl;have HS:=q_ hS;have W1:=q_ hx.2;have HN:=q_ hn;have J1:=q_ jaF;have J2:=q_ hz1;have J3:=q_ hs1;have J4:=q_ hb1;have I1:=q_ DJ;have I2:=q_ hz2;have I3:=q_ hs2;have I4:=q_ hb2
 have Fv:ks.length<=1048576:=by
  have:=M.dx ks;have:(M.flat (.mk x ks)).length=1+(M.bB ks).length:=by unfold M.flat;simp;omega
  omega
 clear hl hS ht hx hn jaF hz1 hs1 hb1 DJ hz2 hs2 hb2 r6 hc0 sT;go_enter Tryz.func76,Tryz.ntmps76;go_wp2_with fail;go_loopw [4,5,6,12] (fun v1 v2 at_ y wr=>∃k:Nat,k<=ks.length/\y= .int .i64 k/\at_= .int .i64 (M.placeOf ks k:Nat)/\aD jB 22 wr w.heap.size S v1 ((ks.map M.flat).take k)/\aD Tq 3 wr w.heap.size (fun _=>False) v2 ((M.places ks).take k)/\(∀g,v1.ownBlock=some g->v2.ownBlock≠some g)/\Below w.heap.size w wr) (fun _ _ _ y _=>ks.length-(intOf y).toNat)
 case atStart=>exact⟨0,by omega,rfl,rfl,aD.nil HS.o,aD.nil (fun b hb=>hb.elim),(fun g h=>by simp[Value.ownBlock] at h),Below.refl _ _⟩
 case round=>
  obtain⟨k,hk,rfl,rfl,F6,AW,hne,bS⟩:=hrel;have O1:=q_ F6;have O2:=q_ AW;have NE:=q_ hne;have HB:=q_ bS;clear F6 AW hne bS;by_cases hlt:k<ks.length
  ·obtain⟨t,dY⟩:∃t,ks[k]? =some t:=⟨_,e_ hlt⟩
   have q1:decide ((k:Int)<(ks.length:Int))=true:=by simp;omega
   have hp:=M.Py (x:=x) dY;have SE:=M.AU dY;have hd:=M.Hg (x:=x) dY;have ht:=M.cw W1.o dY;have hfp:=M.eC t;rw[HN.o] at hp;have HD:=q_ (hd▸(HL.o.dB HB.o HS.o).drop (M.placeOf ks k));have HT:=q_ ht;have HK:=q_ dY;clear hd ht dY;generalize hpk:M.placeOf ks k=p at*;have HE:=q_ (TJ t (M.bB (ks.drop (k+1))) HT.o (some (ad.add (p*10))) (m-p) (c-p) S wr (fun b hb=>l_ (HS.o b hb) HB.o.size) (by omega) HD.o);go_wp2_with fail;refine HE.o.mono ?_;rintro e w2 ⟨rfl,hb2⟩;have j9:=q_ hb2;have B2:=q_ (HB.o.trans (hb2.mono HB.o.size));have P1:=q_ (O1.o.below hb2);have P2:=q_ (O2.o.below hb2);clear hb2
   have R2:=q_ (show jB.R w2 S [.slice (some (ad.add (p*10))) (M.flat t).length (c-p)] (M.flat t) from aU.zZ (by
    have h1:=(HD.o.front (M.flat t).length (by omega)).dB (w':=w2) (B:=wr.heap.size) j9.o (fun b hb=>l_ (HS.o b hb) HB.o.size)
    rwa [List.take_left] at h1) ⟨(fun h=>by cases h),by omega,by omega,by omega⟩)
   have HT1:=q_ (show(ks.map M.flat).take (k+1)=(ks.map M.flat).take k++[M.flat t] by rw[List.take_add_one,List.getElem?_map,HK.o];rfl)
   have HT2:=q_ (show(M.places ks).take (k+1)=(M.places ks).take k++[(p:Int)] by
    rw[List.take_add_one];unfold M.places;rw[List.getElem?_map,List.getElem?_range hlt];simp[hpk])
   have hL1:((ks.map M.flat).take k).length<=k:=List.length_take_le _ _;have hL2:((M.places ks).take k).length<=k:=List.length_take_le _ _;have P3:=q_ (show Tq.R w2 (fun _=>False) [.int .i64 (p:Int)] (p:Int) from⟨rfl,by omega,by omega⟩);generalize hN:(M.flat t).length=N at*;generalize (ks.map M.flat).take k=l1 at*;generalize (M.places ks).take k=l2 at*
   go_wp2_with (first
    |(at_builtin;refine ay rfl (.tmp 18) (.tmp 25) _ rfl it1 (.slice none 0 0) 24 Tryz.underlying132 J1.o J2.o J3.o J4.o rfl rfl (P1.o.alloc (.cells #[.slice (some (ad.add (p*10))) N (c-p)] 22)) ⟨w2.heap.size,0,none⟩ 1 1 [M.flat t] rfl rfl (cH R2.o P1.o.there) (by omega) (by omega) (by have:=B2.o.size;simp;omega) ?_;intro o4 w4 bC hb4 hg4 jaG;have O4:=q_ bC;have W4:=q_ ((B2.o.alloc B2.o.size (.cells #[.slice (some (ad.add (p*10))) N (c-p)] 22)).trans hb4);have P4:=q_ ((P2.o.alloc (.cells #[.slice (some (ad.add (p*10))) N (c-p)] 22)).grown hg4 (fun g hg e=>NE.o g e hg));have NE4:=q_ (yH jaG NE.o (fun g hg=>by have:=(P2.o.aJ hg).2;simp;omega));clear bC hb4 hg4 jaG)
    |(at_builtin;refine ay rfl (.tmp 27) (.tmp 29) _ rfl ZK (.int .i64 0) 8 Tryz.underlying133 I1.o I2.o I3.o I4.o rfl rfl (P4.o.alloc (.cells #[.int .i64 (p:Int)] 3)) ⟨w4.heap.size,0,none⟩ 1 1 [(p:Int)] rfl rfl (cH P3.o P4.o.there) (by omega) (by omega) (by have:=W4.o.size;simp;omega) ?_;intro o5 w5 eY cT qJ jaH;have O5:=q_ eY;have W5:=q_ ((W4.o.alloc W4.o.size (.cells #[.int .i64 (p:Int)] 3)).trans cT);have P5:=q_ ((O4.o.alloc (.cells #[.int .i64 (p:Int)] 3)).grown qJ (fun g hg e=>NE4.o g hg e) (fun g hg hs=>by have h1:=(P4.o.aJ hg).1;have h2:=HS.o _ hs;omega));have NE5:=q_ (yH jaH (fun g e hg=>NE4.o g hg e) (fun g hg=>by have:=(O4.o.aJ hg).2;simp;omega));clear eY cT qJ jaH))
   go_roundw
   case rel=>exact⟨k+1,by omega,by go_num,by rw[SE];go_num,by rw[HT1.o];exact P5.o,by rw[HT2.o];exact O5.o,(fun g hg e=>NE5.o g e hg),W5.o⟩
   case measure=>simp[intOf];omega
  ·have q1:decide ((k:Int)<(ks.length:Int))=false:=by simp;omega
   obtain rfl:k=ks.length:=by omega
   have F6:=O1.o;have AW:=O2.o;rw[List.take_of_length_le (by simp)] at F6;rw[List.take_of_length_le (by simp[M.places])] at AW;have r1:=F6.reads (S':=fun b=>S b\/New w wr b) (fun b hb=> .inl hb) (fun g hg=> .inr (F6.aJ hg)) (by simpa using Fv);have r2:=AW.reads (S':=New w wr) (fun b hb=>hb.elim) (fun g hg=>AW.aJ hg) (by simpa[M.places] using Fv);obtain⟨A1,c1,e1,k1,l1⟩:=aU.av (E:=jB) r1;obtain⟨A2,c2,e2,k2,l2⟩:=aU.av (E:=Tq) r2;rw[List.length_map] at e1 k1 l1;rw[show(M.places ks).length=ks.length by simp[M.places]] at e2 k2 l2;subst e1 e2;have K1:=q_ k1;have K2:=q_ k2;have L1:=q_ l1;have L2:=q_ l2;clear F6 AW r1 r2 k1 k2 l1 l2 O1 O2 NE;go_wp2_with fail;go_ret2;exact⟨A1,c1,A2,c2,rfl,K1.o,K2.o,L1.o,L2.o,HB.o⟩
def XP(w:World)(S:Nat->Prop)(o:Option (List M.Node))(e:Ending)(w':World):Prop:=
 Below w.heap.size w w'/\match o with
  |some r=>∃A c,e= .returned (.tuple #[.slice A r.length c,.bool true])/\bX A r.length c/\bn ENode w' S A r.length r
  |none=>e= .returned (.tuple #[.slice none 0 0,.bool false])
theorem dy{x:M.Node}{r:List M.Node}(h:bn ENode w S A m (x::r)):∃ad,A=some ad/\S ad.block/\x.jd/\w.cell? ad=some (.int .i64 x.op)/\∀i u,x.cells[i+1]? =some u->w.cell? ⟨ad.block,ad.off+(i+1),none⟩=some u:=by
 have hm:=h.1;obtain⟨ad,y,cs,rfl,hb,hy,hr,hc⟩:=h.NY (k:=0) (by rw[<-hm];simp);cases hy;obtain⟨rfl,hx⟩:=ENode.inv hr;refine⟨ad,rfl,hb,hx,?_,fun i u hu=> ?_⟩
 ·have:=hc 0 _ rfl
  rwa [Nat.zero_mul,Nat.add_zero,iU] at this
 ·have:=hc (i+1) u hu
  rwa [Nat.zero_mul,Nat.zero_add,show(i+1)=0+(i+1) by omega,iO (i+1) (by omega),iU] at this
theorem bn.zero:bn E w S A 0 []:=bn.nil
theorem Lz(f:Nat->List M.Node->Option (List M.Node))(k i:Nat)(n:List M.Node):M.iter f (k+1) i n=match f i n with
 |some n'=>M.iter f k (i+1) n'
 |none=>none:=rfl
theorem LB:∀(d:Nat) (l:List M.Node) (cls t:Int) (A:Option Addr) (c:Nat) (S:Nat->Prop) (w:World),t=20-(d:Int)->d<=20->(∀b,S b->b<w.heap.size)->bX A l.length c->bn ENode w S A l.length l->
 Calls Tryz.prog 141 #[.slice A l.length c,.int .i64 cls,.int .i64 t] w (XP w S (M.whole d l cls)):=by
 intro d
 induction d with
 |zero=>
  intro l cls t A c S w ht hd hS aI hl;have hq:decide ((20:Int)<=t)=true:=by simp;omega
  have hm:=aI.le;cases l with
  |nil=>
   clear hl aI hS ht;have HW:=q_ (show M.whole 0 [] cls=none from rfl);go_enter Tryz.func141,Tryz.ntmps141;go_wp2;go_ret2;rw[HW.o];exact⟨Below.refl _ _,rfl⟩
  |cons x r=>
   have HW:=q_ (show M.whole 0 (x::r) cls=none from rfl);simp only[List.length_cons] at*;have FA:0<r.length+1:=by omega
   generalize r.length+1=m at*;have qm:((m:Int)==0)=false:=by simp;omega
   clear hl aI hS ht;go_enter Tryz.func141,Tryz.ntmps141;go_wp2;go_ret2;rw[HW.o];exact⟨Below.refl _ _,rfl⟩
 |succ d ih=>
  intro l cls t A c S w ht hd hS aI hl;have hm:=aI.le;have IH:=q_ ih;clear ih;have q20:decide ((20:Int)<=t)=false:=by simp;omega
  have ht0:0<=t:=by omega
  have XQ:t<20:=by omega
  have HT:=q_ (show t+1=20-(d:Int) by omega);clear ht;cases l with
  |nil=>
   clear hl aI hS;have HW:=q_ (show M.whole (d+1) [] cls=none from rfl);go_enter Tryz.func141,Tryz.ntmps141;go_wp2;go_ret2;rw[HW.o];exact⟨Below.refl _ _,rfl⟩
  |cons x r=>
   obtain⟨ad,rfl,hb,hx,e0,he⟩:=dy hl;have HX:=q_ hx;have HE:=q_ he;have HW:=q_ (show M.whole (d+1) (x::r) cls=if M.b7 x.op=cls/\M.right x=true/\x.n<=r.length then M.iter (fun i n=>M.whole d n (M.wanted x i)) x.n.toNat 0 r else none from rfl);have HS:=q_ hS;have jf:=hl.drop 1;rw[show 1*ENode.n=10 from rfl,List.drop_succ_cons,List.drop_zero] at jf;have HD:=q_ jf;simp only[List.length_cons] at hm aI⊢;have hcm:=aI.2.2.2;have dC:=aI.2.1;have e1:=he 0 _ rfl;have e2:=he 1 _ rfl;have e3:=he 2 _ rfl;have e4:=he 3 _ rfl;have e5:=he 4 _ rfl;have e6:=he 5 _ rfl;have e7:=he 6 _ rfl;have e8:=he 7 _ rfl;have e9:=he 8 _ rfl;have hbw:=hS _ hb;have KC:=q_ (fun(W:World)=>Dm x.op W);have KR:=q_ (fun(W:World)=>Lu x HX.o W);have KW:=q_ (fun(W:World) (i:Nat)=>GQ x i W);have HC:=q_ (fun(W:World) (h:Below w.heap.size w W) (p:Addr) (hp:S p.block)=>h.cell (p:=p) (HS.o _ hp))
   have CF:=q_ (fun(W:World) (h:Below w.heap.size w W)=>show W.cell? ad=some (.int .i64 x.op)/\W.cell? ⟨ad.block,ad.off+1,none⟩=some (.int .i64 x.n)/\W.cell? ⟨ad.block,ad.off+2,none⟩=some (.string x.text)/\W.cell? ⟨ad.block,ad.off+3,none⟩=some (.int .i64 x.num)/\W.cell? ⟨ad.block,ad.off+4,none⟩=some (.string x.path.aN)/\W.cell? ⟨ad.block,ad.off+5,none⟩=some (.int .i64 x.path.aP)/\W.cell? ⟨ad.block,ad.off+6,none⟩=some (.int .i64 x.path.aR)/\W.cell? ⟨ad.block,ad.off+7,none⟩=some (.int .i64 x.path.rep)/\W.cell? ⟨ad.block,ad.off+8,none⟩=some (.int .i64 x.path.comp)/\W.cell? ⟨ad.block,ad.off+9,none⟩=some (.int .i64 x.path.sub) from
    ⟨(h.cell (p:=ad) (HS.o _ hb)).trans e0,(h.cell (p:=⟨ad.block,ad.off+(0+1),none⟩) (HS.o _ hb)).trans e1,(h.cell (p:=⟨ad.block,ad.off+(1+1),none⟩) (HS.o _ hb)).trans e2,(h.cell (p:=⟨ad.block,ad.off+(2+1),none⟩) (HS.o _ hb)).trans e3,(h.cell (p:=⟨ad.block,ad.off+(3+1),none⟩) (HS.o _ hb)).trans e4,(h.cell (p:=⟨ad.block,ad.off+(4+1),none⟩) (HS.o _ hb)).trans e5,(h.cell (p:=⟨ad.block,ad.off+(5+1),none⟩) (HS.o _ hb)).trans e6,(h.cell (p:=⟨ad.block,ad.off+(6+1),none⟩) (HS.o _ hb)).trans e7,(h.cell (p:=⟨ad.block,ad.off+(7+1),none⟩) (HS.o _ hb)).trans e8,(h.cell (p:=⟨ad.block,ad.off+(8+1),none⟩) (HS.o _ hb)).trans e9⟩)
   clear hl he jf hx hS;generalize xk:r.length=m at*;have qm:(((m+1:Nat):Int)==0)=false:=by simp;omega
   have qm':((m:Int)+1==0)=false:=by simp;omega
   go_enter Tryz.func141,Tryz.ntmps141;go_wp2_with fail;refine(KC.o _).mono ?_
   rintro e w2 ⟨rfl,hb2⟩;have B2:=q_ hb2;obtain⟨f0,f1,f2,f3,f4,f5,f6,f7,f8,f9⟩:=CF.o w2 B2.o;clear hb2;generalize lH:M.b7 x.op=co at*;by_cases hce:co=cls
   ·have q1:(co !=cls)=false:=by simp[hce]
    have HC1:=q_ hce;clear hce lH;go_wp2_with fail;refine(KR.o _).mono ?_
    rintro e w3 ⟨rfl,hb3⟩;have B3:=q_ (B2.o.trans (hb3.mono B2.o.size));obtain⟨f0,f1,f2,f3,f4,f5,f6,f7,f8,f9⟩:=CF.o w3 B3.o;clear hb3;cases hr:M.right x with
    |false=>
     have HF:=q_ (show M.whole (d+1) (x::r) cls=none by rw[HW.o,if_neg (fun h=>by rw[hr] at h;cases h.2.1)]);go_wp2;go_ret2;rw[HF.o];exact⟨B3.o,rfl⟩
    |true=>
     have E4:=q_ (ar.new w3 129 #[.int .i64 0,.int .i64 0,.string ⟨#[]⟩,.int .i64 0,.string ⟨#[]⟩,.int .i64 0,.int .i64 0,.int .i64 0,.int .i64 0,.int .i64 0]);by_cases hn:x.n<=m
     ·have q2:decide ((m:Int)<x.n)=false:=by simp;omega
      have HF:=q_ (show M.whole (d+1) (x::r) cls=M.iter (fun i n=>M.whole d n (M.wanted x i)) x.n.toNat 0 r by rw[HW.o,if_pos ⟨HC1.o,hr,hn⟩]);by_cases hc1:c=1
      ·subst hc1
       obtain rfl:m=0:=by omega
       have q3:decide (0<x.n)=false:=by simp;omega
       have r6:r=[]:=List.eq_nil_of_length_eq_zero xk;have HF2:=q_ (show M.whole (d+1) (x::r) cls=some [] by rw[HF.o,show x.n.toNat=0 by omega,r6];rfl);go_wp2_with (refine ah (cs':=#[.int .i64 x.op,.int .i64 x.n,.string x.text,.int .i64 x.num,.string x.path.aN,.int .i64 x.path.aP,.int .i64 x.path.aR,.int .i64 x.path.rep,.int .i64 x.path.comp,.int .i64 x.path.sub]) rfl 129 (.tmp 8) (.tmp 36) rfl w3.heap.size (by rfl) (by rfl) E4.o rfl (by kernel_rfl) (by simp[Value.oneCell']) ?_;intro w5 k5 g5;have K5:=q_ k5;have B5:=q_ (ai (B3.o.alloc B3.o.size (.cells #[.int .i64 0,.int .i64 0,.string ⟨#[]⟩,.int .i64 0,.string ⟨#[]⟩,.int .i64 0,.int .i64 0,.int .i64 0,.int .i64 0,.int .i64 0] 129)) g5 B3.o.size);have y5:=K5.o.cell;clear k5 g5);go_loopw [0,46] (fun v y wr=>v= .slice (some ad) 0 0/\y= .int .i64 0/\Below w.heap.size w wr) (fun _ _ _=>0)
       case atStart=>exact⟨rfl,rfl,B5.o⟩
       case round=>
        obtain⟨rfl,rfl,hb⟩:=hrel;have HB:=q_ hb;clear hb;go_wp2;go_ret2;rw[HF2.o];exact⟨HB.o,_,_,rfl,⟨(fun _=>⟨rfl,rfl⟩),n_,by simp,by simp⟩,bn.nil⟩
      ·have hc2:2<=c:=by omega
       have qc:decide (c=1)=false:=by simp[hc1]
       go_wp2_with (refine ah (cs':=#[.int .i64 x.op,.int .i64 x.n,.string x.text,.int .i64 x.num,.string x.path.aN,.int .i64 x.path.aP,.int .i64 x.path.aR,.int .i64 x.path.rep,.int .i64 x.path.comp,.int .i64 x.path.sub]) rfl 129 (.tmp 8) (.tmp 36) rfl w3.heap.size (by rfl) (by rfl) E4.o rfl (by kernel_rfl) (by simp[Value.oneCell']) ?_;intro w5 k5 g5;have K5:=q_ k5;have B5:=q_ (ai (B3.o.alloc B3.o.size (.cells #[.int .i64 0,.int .i64 0,.string ⟨#[]⟩,.int .i64 0,.string ⟨#[]⟩,.int .i64 0,.int .i64 0,.int .i64 0,.int .i64 0,.int .i64 0] 129)) g5 B3.o.size);have y5:=K5.o.cell;clear k5 g5)
       have HD5:=q_ (show bn ENode w5 S (some ⟨ad.block,ad.off+10,none⟩) m r by
        have h:=HD.o.dB B5.o HS.o
        rwa [show ad.add 10=⟨ad.block,ad.off+10,none⟩ from by rw[Addr.add,if_neg (by omega)],show(x::r).length-1=m by simp[xk]] at h)
       have S5:=q_ (show w3.heap.size<w5.heap.size from K5.o.lt);obtain⟨N,hN⟩:∃N,x.n.toNat=N:=⟨_,rfl⟩
       have HNX:=q_ (show∀k:Nat,k<N<->(k:Int)<x.n from fun k=>by omega);rw[hN] at HF;have hNb:N<=1048576:=by omega
       clear hN;have HI:=q_ (fun k i n=>Lz (fun i n=>M.whole d n (M.wanted x i)) k i n);clear y5;subst xk;go_loopw [0,46] (fun v y wr=>∃(k:Nat) (A':Option Addr) (c':Nat) (q:List M.Node),k<=N/\y= .int .i64 k/\v= .slice A' q.length c'/\bX A' q.length c'/\bn ENode wr S A' q.length q/\M.iter (fun i n=>M.whole d n (M.wanted x i)) (N-k) k q=M.whole (d+1) (x::r) cls/\ar wr w3.heap.size 129 #[.int .i64 x.op,.int .i64 x.n,.string x.text,.int .i64 x.num,.string x.path.aN,.int .i64 x.path.aP,.int .i64 x.path.aR,.int .i64 x.path.rep,.int .i64 x.path.comp,.int .i64 x.path.sub]/\Below w.heap.size w wr) (fun _ y _=>N-(intOf y).toNat)
       case atStart=>exact⟨0,_,_,r,by omega,rfl,rfl,⟨(fun h=>by cases h),by omega,by omega,by omega⟩,HD5.o,by rw[HF.o];rfl,K5.o,B5.o⟩
       case round=>
        obtain⟨k,A',c',q,hk,rfl,rfl,jaI,hl',hit,Fw,hb⟩:=hrel;have OK:=q_ jaI;have LT:=q_ hl';have IT:=q_ hit;have HK:=q_ Fw;have HB:=q_ hb;clear jaI hl' hit Fw hb;by_cases hlt:k<N
        ·have q4:decide ((k:Int)<x.n)=true:=decide_eq_true ((HNX.o k).1 hlt)
         have y6:=HK.o.cell
         have IT2:=q_ (show(match M.whole d q (M.wanted x k) with|some n'=>M.iter (fun i n=>M.whole d n (M.wanted x i)) (N-(k+1)) (k+1) n'|none=>none)=M.whole (d+1) (x::r) cls by
          rw[<-IT.o,show N-k=(N-(k+1))+1 by omega,HI.o])
         go_wp2_with fail;refine(KW.o _ k).mono ?_
         rintro e w6 ⟨rfl,dw⟩;have B6:=q_ (HB.o.trans (dw.mono HB.o.size));have K6:=q_ (HK.o.below dw HK.o.lt);have L6:=q_ (LT.o.dB dw (fun b hb=>l_ (HS.o b hb) HB.o.size));clear dw y6;go_wp2_with fail;refine(IH.o q (M.wanted x k) (t+1) A' c' S w6 HT.o (by omega) (fun b hb=>l_ (HS.o b hb) B6.o.size) OK.o L6.o).mono ?_
         rintro e w7 ⟨gW,XR⟩;have B7:=q_ (B6.o.trans (gW.mono B6.o.size));have K7:=q_ (K6.o.below gW K6.o.lt);clear gW;cases hw:M.whole d q (M.wanted x k) with
         |none=>
          rw[hw] at XR;subst XR;have I7:=q_ (show M.whole (d+1) (x::r) cls=none by rw[<-IT2.o,hw]);clear hw;go_wp2;go_ret2;rw[I7.o];exact⟨B7.o,rfl⟩
         |some q'=>
          rw[hw] at XR;obtain⟨A7,c7,rfl,ok7,l7⟩:=XR;have I7:=q_ (show M.iter (fun i n=>M.whole d n (M.wanted x i)) (N-(k+1)) (k+1) q'=M.whole (d+1) (x::r) cls by rw[<-IT2.o,hw]);have O7:=q_ ok7;have L7:=q_ l7;clear hw ok7 l7;go_wp2;go_roundw
          case rel=>exact⟨k+1,A7,c7,q',by omega,by go_num,rfl,O7.o,L7.o,I7.o,K7.o,B7.o⟩
          case measure=>simp[intOf];omega
        ·have q4:decide ((k:Int)<x.n)=false:=decide_eq_false (fun h=>hlt ((HNX.o k).2 h))
         have I7:=q_ (show M.whole (d+1) (x::r) cls=some q by rw[<-IT.o,show N-k=0 by omega];rfl);go_wp2;go_ret2;rw[I7.o];exact⟨HB.o,A',c',rfl,OK.o,LT.o⟩
     ·have q2:decide ((m:Int)<x.n)=true:=by simp;omega
      have HF:=q_ (show M.whole (d+1) (x::r) cls=none by rw[HW.o,if_neg (fun h=>hn h.2.2)]);go_wp2_with (refine ah (cs':=#[.int .i64 x.op,.int .i64 x.n,.string x.text,.int .i64 x.num,.string x.path.aN,.int .i64 x.path.aP,.int .i64 x.path.aR,.int .i64 x.path.rep,.int .i64 x.path.comp,.int .i64 x.path.sub]) rfl 129 (.tmp 8) (.tmp 36) rfl w3.heap.size (by rfl) (by rfl) E4.o rfl (by kernel_rfl) (by simp[Value.oneCell']) ?_;intro w5 k5 g5;have K5:=q_ k5;have B5:=q_ (ai (B3.o.alloc B3.o.size (.cells #[.int .i64 0,.int .i64 0,.string ⟨#[]⟩,.int .i64 0,.string ⟨#[]⟩,.int .i64 0,.int .i64 0,.int .i64 0,.int .i64 0,.int .i64 0] 129)) g5 B3.o.size);have y5:=K5.o.cell;clear k5 g5)
      all_goals go_ret2
      all_goals (rw[HF.o];exact⟨B5.o,rfl⟩)
   ·have q1:(co !=cls)=true:=by simp[hce]
    have HF:=q_ (show M.whole (d+1) (x::r) cls=none by rw[HW.o,if_neg (fun h=>hce h.1)]);go_wp2;go_ret2;rw[HF.o];exact⟨B2.o,rfl⟩
theorem XT(l:List M.Node)(cls:Int)(A:Option Addr)(c:Nat)(S:Nat->Prop)(w:World)(hS:∀b,S b->b<w.heap.size)(aI:bX A l.length c)(hl:bn ENode w S A l.length l):
 Calls Tryz.prog 90 #[.slice A l.length c,.int .i64 cls] w fun e w'=>e= .returned (.bool (M.Sw l cls))/\Below w.heap.size w w':=by
 have hm:=aI.le;have K:=q_ (LB 20 l cls 0 A c S w (by omega) (by omega) hS aI hl);have HI:=q_ (show M.Sw l cls=(decide (l.length<=400)&&match M.whole 20 l cls with|some []=>true|_=>false) from rfl);clear aI hl hS;generalize xk:l.length=m at*;by_cases h4:m<=400
 ·have q1:decide ((400:Int)<(m:Int))=false:=by simp;omega
  have HI2:=q_ (show M.Sw l cls=match M.whole 20 l cls with|some []=>true|_=>false by rw[HI.o,decide_eq_true h4,Bool.true_and]);go_enter Tryz.func90,Tryz.ntmps90;go_wp2_with fail;refine K.o.mono ?_;rintro e w2 ⟨hb,hr⟩;have HB:=q_ hb;clear hb;generalize M.whole 20 l cls=o at*;cases o with
  |none=>
   subst hr;go_wp2;go_ret;exact⟨by rw[HI2.o];rfl,HB.o⟩
  |some r=>
   obtain⟨A2,c2,rfl,-,-⟩:=hr;cases r with
   |nil=>
    go_wp2;go_ret;exact⟨by rw[HI2.o];rfl,HB.o⟩
   |cons x r=>
    have q2:(((r.length:Int)+1)==0)=false:=by simp;omega
    simp only[List.length_cons];go_wp2;go_ret;exact⟨by rw[HI2.o];rfl,HB.o⟩
 ·have q1:decide ((400:Int)<(m:Int))=true:=by simp;omega
  have HI2:=q_ (show M.Sw l cls=false by rw[HI.o,decide_eq_false h4,Bool.false_and]);go_enter Tryz.func90,Tryz.ntmps90;go_wp2;go_ret;exact⟨by rw[HI2.o];rfl,Below.refl _ _⟩
theorem xA(l:List M.Node)(A:Option Addr)(c:Nat)(S:Nat->Prop)(w:World)(hS:∀b,S b->b<w.heap.size)(aI:bX A l.length c)(hl:bn ENode w S A l.length l):
 Calls Tryz.prog 29 #[.slice A l.length c] w fun e w'=>e= .returned (.bool (M.Sw l 1))/\Below w.heap.size w w':=by
 have K:=q_ (XT l 1 A c S w hS aI hl);clear aI hl hS;go_enter Tryz.func29,Tryz.ntmps29;go_wp2_with fail;refine K.o.mono ?_;rintro e w2 ⟨rfl,hb⟩;have HB:=q_ hb;clear hb;go_wp2;go_ret;exact⟨rfl,HB.o⟩
namespace M
theorem vz:∀(d:Nat) (n:List Node) (cls:Int) (r:List Node),whole d n cls=some r->∃t,n=flat t++r/\mh t/\jP d cls t=true
 |0,_,_,_,h=>by simp[whole] at h
 |d+1,[],_,_,h=>by simp[whole] at h
 |d+1,x::n,cls,r,h=>by
  simp only[whole] at h;split at h
  ·next hc=>
   obtain⟨lH,hr,hn⟩:=hc
   have key:∀(k i:Nat) (n r:List Node),iter (fun i n=>whole d n (wanted x i)) k i n=some r->∃ks:List Tree,n=bB ks++r/\ks.length=k/\pz ks/\∀j t,ks[j]? =some t->jP d (wanted x (i+j)) t=true:=by
    intro k
    induction k with
    |zero=>
     intro i n r hi;simp only[iter] at hi;cases hi;exact⟨[],by simp[bB],rfl,trivial,fun j t h=>by simp at h⟩
    |succ k ih=>
     intro i n r hi;simp only[iter] at hi;split at hi
     ·next n' hw=>
      obtain⟨t,ht,bf,aI⟩:=vz d n (wanted x i) n' hw;obtain⟨ks,jq,hlen,FC,hall⟩:=ih (i+1) n' r hi;refine⟨t::ks,by rw[ht,jq];simp[bB],by simp[hlen],⟨bf,FC⟩,fun j t' hj=> ?_⟩;cases j with
      |zero=>simp at hj;subst hj;simpa using aI
      |succ j=>have:=hall j t' (by simpa using hj);rwa [show i+1+j=i+(j+1) by omega] at this
     ·cases hi
   obtain⟨ks,jq,hlen,FC,hall⟩:=key _ _ _ _ h;by_cases h0:0<=x.n
   ·refine⟨.mk x ks,by simp[flat,jq],⟨by omega,FC⟩,?_⟩
    simp only[jP,lH,hr,decide_true,Bool.true_and,Bool.and_eq_true,decide_eq_true_eq,List.all_eq_true];refine⟨by omega,?_⟩;rintro⟨t,j⟩ hm;have:=List.mem_zipIdx hm;obtain⟨h1,h2,h3⟩:=this;have h4:=hall j t (by rw[h3];simp);simpa using h4
   ·
    have hl:cd x.op<=x.n:=by
     unfold right at hr;simp only[Bool.and_eq_true,decide_eq_true_eq] at hr;exact hr.1.1.2
    have:0<=cd x.op:=by
     unfold cd
     repeat' split
     all_goals omega
    omega
  ·cases h
theorem Pz(n:List Node)(cls:Int)(h:Sw n cls=true):∃t,n=flat t/\mh t/\jP 20 cls t=true/\n.length<=400:=by
 unfold Sw at h;rw[Bool.and_eq_true,decide_eq_true_iff] at h;obtain⟨h1,h2⟩:=h;split at h2
 ·next hw=>
  obtain⟨t,ht,hw,hk⟩:=vz 20 n cls [] hw;exact⟨t,by simpa using ht,hw,hk,h1⟩
 ·cases h2
end M
end
section
open Go Go.RowKit Go.BigFrame Go.Maps Go.WideMaps
def eR(ch:List PanicEntry):Prop:=∃e at_:Int,e≠0/\ch=[{v:= .iface 149 (.agg #[.int .i64 e,.int .i64 at_]),recovered:=false}]
theorem bL(e at_:Int)(w:World):Calls Tryz.prog 142 #[.bool true,.int .i64 e,.int .i64 at_] w fun x w'=>x= .returned (.tuple #[])/\w'=w:=by
 go_enter Tryz.func142,Tryz.ntmps142;go_wp2;go_end0;exact⟨rfl,rfl⟩
theorem cM(e at_:Int)(he:e≠0)(w:World):Calls Tryz.prog 142 #[.bool false,.int .i64 e,.int .i64 at_] w fun x w'=>(∃ch,x= .panicked ch/\eR ch)/\w'=w:=by
 have HE:=q_ he;clear he;go_enter Tryz.func142,Tryz.ntmps142;go_wp2;exact⟨rfl,⟨_,rfl,_,_,HE.o,rfl⟩,rfl⟩
theorem DK(a b:Int)(w:World):Calls Tryz.prog 185 #[.int .i64 a,.int .i64 b] w fun x w'=>x= .returned (.bool (M.both a b))/\w'=w:=by
 by_cases h1:a=b
 ·have q1:(a==b)=true:=by simp[h1]
  by_cases h2:a=1
  ·have q2:(a==1)=true:=by simp[h2]
   have HB:=q_ (show M.both a b=true by unfold M.both;rw[decide_eq_true h1,decide_eq_true h2];rfl);clear h1 h2;go_enter Tryz.func185,Tryz.ntmps185;go_wp2;go_ret;exact⟨by rw[HB.o];rfl,rfl⟩
  ·have q2:(a==1)=false:=by simp[h2]
   have HB:=q_ (show M.both a b=(a==2) by unfold M.both;rw[decide_eq_true h1,decide_eq_false h2];simp[Bool.beq_eq_decide_eq]);clear h1 h2;go_enter Tryz.func185,Tryz.ntmps185;go_wp2;go_ret;exact⟨by rw[HB.o];rfl,rfl⟩
 ·have q1:(a==b)=false:=by simp[h1]
  have HB:=q_ (show M.both a b=false by simp[M.both,h1]);clear h1;go_enter Tryz.func185,Tryz.ntmps185;go_wp2;go_ret;exact⟨by rw[HB.o];rfl,rfl⟩
abbrev cy:=Int×ByteArray
def lh(p:cy):Value:= .agg #[.int .i64 p.1,.string p.2]
theorem jW:∀x y:cy,lh x=lh y->x=y:=by
 rintro⟨a,b⟩ ⟨a',b'⟩ h;simp[lh] at h;obtain⟨rfl,rfl⟩:=h;rfl
theorem LD:(152:TypeId)<Tryz.prog.types.size:=of_decide_eq_true (by kernel_rfl)
theorem Hi:(match Tryz.prog.underlying 152 with|some (.array _ _)|some (.struct _)=>true|_=>false)=true:=by kernel_rfl
theorem Hj:Tryz.prog.keyTypeAt 3 152=true:=by kernel_rfl
theorem rh:Keyed Tryz.prog 152:=Keyed.of_law (deep_law_laid ma (m:=3) (by omega) LD Hj Hi)
theorem DL:Tryz.prog.cellsOf 152=2:=by kernel_rfl
theorem Hk:Tryz.prog.keyType 152=true:=by kernel_rfl
theorem AX:∃g0 g1:Field,Tryz.prog.underlying 152=some (.struct #[g0,g1])/\(g0.type=3/\g0.offset=0/\(g0.name≠ "_"))/\(g1.type=9/\g1.offset=1/\(g1.name≠ "_")):=
 ⟨_,_,Tryz.underlying152,⟨rfl,rfl,by decide⟩,⟨rfl,rfl,by decide⟩⟩
theorem AY{P:Program}{k ts ti:TypeId}{g0 g1:Field}(hu:P.underlying k=some (.struct #[g0,g1]))(us:P.underlying ts=some .string)(ui:P.underlying ti=some (.int .i64))(t0:g0.type=ti)(t1:g1.type=ts)(o0:g0.offset=0)(o1:g1.offset=1)(n0:g0.name≠ "_")(n1:g1.name≠ "_")(hk:P.keyType k=true)(hc:P.cellsOf k=2)(cs:P.cellsOf ts=1)(ci:P.cellsOf ti=1)(hn:P.types.size=n+2)(o:Int)(s:ByteArray)(hs:s.size<=maxLen)(ho:(Lit.int .i64 o).wf=true):∃kl,keyOf P k (.agg #[.int .i64 o,.string s])=some kl:=by
 simp[keyOf,hu,hk,Value.formed,hc,hn,Program.keyLits,Value.cells,t0,t1,o0,o1,n0,n1,us,ui,cs,ci,hs,ho]
theorem yI(o:Int)(s:ByteArray)(ho:pH o)(hs:s.size<=1048576):∃kl,keyOf Tryz.prog 152 (lh (o,s))=some kl:=by
 obtain⟨g0,g1,hu,⟨t0,o0,n0⟩,⟨t1,o1,n1⟩⟩:=AX;obtain⟨n,hn⟩:=yu;exact AY hu Tryz.underlying9 Tryz.underlying3 t0 t1 o0 o1 n0 n1 Hk DL yq yt hn o s (t_ hs (by decide)) (qX ho)
abbrev Hl(w:World)(b:Nat)(f:cy->Option Int):Prop:=cY Tryz.prog 152 lh w b (fun x=>(f x).map (Value.int .i64))
def dZ(f:cy->Option Int)(name:ByteArray):Nat->Option (Int×Int)
 |0=>none
 |k+1=>match f ((k:Int),name) with
  |some v=>some (v,k)
  |none=>dZ f name k
def vA(f:cy->Option Int)(name:ByteArray)(k:Nat):Value:=match dZ f name k with
 |some (v,d)=> .tuple #[.int .i64 v,.int .i64 d]
 |none=> .tuple #[.int .i64 0,.int .i64 (-1)]
theorem DN(g mb D:Nat)(f:cy->Option Int)(dv tv:Value)(name:ByteArray)(w:World)(hD:D<=1000)(hc:ar w g 76 #[dv,tv,.map (some mb),.int .i64 D])(hm:Hl w mb f)(hn:name.size<=1048576):
 Calls Tryz.prog 144 #[.pointer (some ⟨g,0,none⟩),.string name] w fun e w'=>e= .returned (vA f name (D+1))/\Below w.heap.size w w':=by
 have HC:=q_ hc;have HM:=q_ hm;have HS:=q_ (fun(k:Nat)=>show dZ f name (k+1)=match f ((k:Int),name) with|some v=>some (v,(k:Int))|none=>dZ f name k from rfl);have z:=hc.cell;clear hc hm;go_enter Tryz.func144,Tryz.ntmps144;go_wp2_with fail;clear z;go_loopw [6] (fun v wr=>∃k:Nat,k<=D+1/\v= .int .i64 ((k:Int)-1)/\dZ f name k=dZ f name (D+1)/\Below w.heap.size w wr) (fun v _=>(intOf v+1).toNat)
 case atStart=>exact⟨D+1,n_,by go_num,rfl,Below.refl _ _⟩
 case round=>
  obtain⟨k,hk,rfl,hf,hb⟩:=hrel;have HF:=q_ hf;have HB:=q_ hb;clear hf hb;cases k with
  |zero=>
   have HE:=q_ (show vA f name (D+1)= .tuple #[.int .i64 0,.int .i64 (-1)] by unfold vA;rw[<-HF.o];rfl);have q1:decide ((0:Int)<=((0:Nat):Int)-1)=false:=by decide
   go_wp2;go_ret2;exact⟨by rw[HE.o];rfl,HB.o⟩
  |succ k=>
   rw[show((k+1:Nat):Int)-1=(k:Int) by omega];have y:=(HC.o.below HB.o HC.o.lt).cell;obtain⟨kl,nM⟩:=yI (k:Int) name ⟨by omega,by omega⟩ hn;have hl:=(HM.o.below HB.o HM.o.lt).look rh Tryz.underlying74 jW nM (Tryz.zeroValue3 wr) true;have h1:=HS.o k;cases hq:f ((k:Int),name) with
   |some v=>
    rw[hq] at hl h1;simp only[if_true,Option.map_some,Option.getD_some,Option.isSome_some,lh] at hl;have HE:=q_ (show vA f name (D+1)= .tuple #[.int .i64 v,.int .i64 k] by unfold vA;rw[<-HF.o,h1]);clear hq h1;go_wp2;go_ret2;exact⟨by rw[HE.o];rfl,HB.o⟩
   |none=>
    rw[hq] at hl h1;simp only[if_true,Option.map_none,Option.getD_none,Option.isSome_none,lh] at hl;have H2:=q_ (show dZ f name k=dZ f name (D+1) by rw[<-HF.o,h1]);clear hq h1;go_wp2;go_roundw
    case rel=>exact⟨k,by omega,by go_num,H2.o,HB.o⟩
    case measure=>simp[intOf]
abbrev LF:=Array Value×Int×Int×Bool
def XU(w:World)(mb:Nat)(v:Value)(q:LF):Prop:=∃A,v= .agg #[.slice A q.1.size q.1.size,.int .i64 q.2.1,.int .i64 q.2.2.1,.bool q.2.2.2]/\((A=none/\q.1=#[])\/∃b,A=some ⟨b,0,none⟩/\mb<b/\ar w b 3 q.1)
abbrev jb0(w:World)(b:Nat)(F:ByteArray->Option Value):Prop:=cY Tryz.prog 9 Value.string w b F
def dG(w:World)(mb:Nat)(pT:List (ByteArray×LF)):Prop:=∃F,jb0 w mb F/\∀y,match M.look y pT with
 |some q=>∃v,F y=some v/\XU w mb v q
 |none=>F y=none
theorem XU.keep{q:LF}(h:XU w mb v q)(hb:∀b,mb<b->b<w.heap.size->w'.heap[b]? =w.heap[b]?):XU w' mb v q:=by
 obtain⟨A,e,h2⟩:=h;refine⟨A,e,h2.imp id ?_⟩;rintro⟨b,e,h3,h4⟩;exact⟨b,e,h3,(hb b h3 h4.lt).trans h4⟩
theorem dG.keep{pT:List (ByteArray×LF)}(h:dG w mb pT)(hb:∀b,mb<=b->b<w.heap.size->w'.heap[b]? =w.heap[b]?):dG w' mb pT:=by
 obtain⟨F,h1,h2⟩:=h;refine⟨F,h1.keep (hb mb (n_) h1.lt),fun y=> ?_⟩;have:=h2 y;split at this
 ·obtain⟨v,hv,hq⟩:=this
  exact⟨v,hv,hq.keep (fun b h3 h4=>hb b (Nat.le_of_lt h3) h4)⟩
 ·exact this
theorem dG.below{pT:List (ByteArray×LF)}(h:dG w mb pT)(hb:Below w.heap.size w w'):dG w' mb pT:=h.keep (fun b _ h=>hb.block b h)
theorem dG.made(w:World):dG (w.alloc (.map #[] 0)) w.heap.size []:=⟨_,cY.made w _ _ _,fun y=>rfl⟩
theorem dG.lt{pT:List (ByteArray×LF)}(h:dG w mb pT):mb<w.heap.size:=by
 obtain⟨F,h1,_⟩:=h;exact h1.lt
theorem dG.put{pT:List (ByteArray×LF)}(h:dG w mb pT)(x:ByteArray)(hx:x.size<=1048576)(v:Value)(q:LF)(hv:XU w mb v q):
 ∃w',(Instr.mapUpdate 284 (.map (some mb)) (.string x) v).run Tryz.prog w= .ok () w'/\dG w' mb ((x,q)::pT)/\w.grownBy w' (some mb):=by
 obtain⟨F,h1,h2⟩:=h;obtain⟨w',hr,hm,hg⟩:=h1.store gq Tryz.underlying284 str_inj (gu x hx) v;have VZ:∀b,mb<b->b<w.heap.size->w'.heap[b]? =w.heap[b]? :=fun b hb hl=>hg.block b hl (fun e=>by injection e with e;omega);refine⟨w',hr,⟨_,hm,fun y=> ?_⟩,hg⟩;unfold M.look;by_cases hy:y=x
 ·subst hy
  rw[if_pos (iz.2 rfl)];exact⟨v,if_pos rfl,hv.keep VZ⟩
 ·rw[if_neg (fun e=>hy (iz.1 e).symm)]
  have:=h2 y;split at this
  ·next q' hq=>
   obtain⟨v',hv',hq'⟩:=this;exact⟨v',(if_neg hy).trans hv',hq'.keep VZ⟩
  ·next hq=>
   exact(if_neg hy).trans this
theorem tj{pT:List (ByteArray×LF)}(hg:o.guard=none)(m x v:Operand)(hop:o.op=Op.insert 284 m x v)(cs:Array Value)(h:dG w mb pT)(key:ByteArray)(t s:Int)(b:Bool)(hm:a.eval m= .map (some mb))(hx:a.eval x= .string key)(nb k1 k2:Nat)(hv:a.eval v= .agg #[.slice (some ⟨nb,0,none⟩) k1 k2,.int .i64 t,.int .i64 s,.bool b])(hnb:nb=w.heap.size)(kY:k1=cs.size)(hk2:k2=cs.size)(hk:key.size<=1048576)(hK:∀w',dG w' mb ((key,(cs,t,s,b))::pT)->(w.alloc (.cells cs 3)).grownBy w' (some mb)->wpList Tryz.prog ops Q rest (a.put o.dst undef) w'):wpList Tryz.prog ops Q (o::rest) a (w.alloc (.cells cs 3)):=by
 subst hnb kY hk2;refine wpList_plain hg fun K' hK'=> ?_;obtain⟨w',hrun,r1,r2⟩:=(h.below (aj.alloc w _)).put key hk (.agg #[.slice (some ⟨w.heap.size,0,none⟩) cs.size cs.size,.int .i64 t,.int .i64 s,.bool b]) (cs,t,s,b) ⟨_,rfl,.inr ⟨_,rfl,h.lt,ar.new w _ _⟩⟩;unfold Oper.wp;simp[execOp,hop,hm,hx,hv,hrun,Result.andThen];exact hK' _ _ (hK w' r1 r2)
theorem ri{pT:List (ByteArray×LF)}(hg:o.guard=none)(m x v:Operand)(hop:o.op=Op.insert 284 m x v)(h:dG w mb pT)(key:ByteArray)(t s:Int)(b:Bool)(hm:a.eval m= .map (some mb))(hx:a.eval x= .string key)(hv:a.eval v= .agg #[.slice none 0 0,.int .i64 t,.int .i64 s,.bool b])(hk:key.size<=1048576)(hK:∀w',dG w' mb ((key,(#[],t,s,b))::pT)->w.grownBy w' (some mb)->wpList Tryz.prog ops Q rest (a.put o.dst undef) w'):wpList Tryz.prog ops Q (o::rest) a w:=by
 refine wpList_plain hg fun K' hK'=> ?_;obtain⟨w',hrun,r1,r2⟩:=h.put key hk (.agg #[.slice none 0 0,.int .i64 t,.int .i64 s,.bool b]) (#[],t,s,b) ⟨none,rfl,.inl ⟨rfl,rfl⟩⟩;unfold Oper.wp;simp[execOp,hop,hm,hx,hv,hrun,Result.andThen];exact hK' _ _ (hK w' r1 r2)
def qM(f:M.Fn):LF:=((f.args.map (Value.int .i64)).toArray,f.tells,f.sort,f.table)
def AZ:List (ByteArray×LF):=(M.fns.map fun p=>(p.1,qM p.2)).reverse
theorem xB(w:World):Calls Tryz.prog 255 #[] w fun e w'=>∃b,e= .returned (.map (some b))/\w.heap.size<=b/\dG w' b AZ/\Below w.heap.size w w':=by
 have HI:=q_ (dG.made w);have HB:=q_ ((Below.refl _ w).alloc (n_) (.map #[] 0));have Al:= @run_makeMap Tryz.prog;go_enter Tryz.func255,Tryz.ntmps255
 go_wp2_with (first
  |(refine tj (by rfl) _ _ _ (by rfl) _ HI.o _ _ _ _ (by rfl) (by rfl) _ _ _ (by rfl) (by simp) (by rfl) (by rfl) (by decide) ?_;intro w1 Aw hg1;have HB:=q_ (ai (HB.o.alloc HB.o.size _) hg1 (n_));have HI:=q_ Aw;clear Aw hg1)
  |(refine ri (by rfl) _ _ _ (by rfl) HI.o _ _ _ _ (by rfl) (by rfl) (by rfl) (by decide) ?_;intro w1 Aw hg1;have HB:=q_ (ai HB.o hg1 (n_));have HI:=q_ Aw;clear Aw hg1))
 go_ret;exact⟨_,rfl,n_,HI.o,HB.o⟩
theorem od{y:ByteArray}:∀{l:List (ByteArray×M.Fn)},M.look y l=none->∀p∈l,p.1≠y
 |[],_,p,hp=>by cases hp
 |(k,v)::l,h,p,hp=>by
  unfold M.look at h;split at h
  ·cases h
  ·next hk=>
   rcases List.mem_cons.1 hp with rfl|hp
   ·exact fun e=>hk (iz.2 e)
   ·exact od h p hp
theorem PA(y:ByteArray):M.look y AZ=(M.look y M.fns).map qM:=by
 cases h:M.look y M.fns with
 |none=>
  have hno:=od h
  have key:∀l:List (ByteArray×LF),(∀p∈l,p.1≠y)->M.look y l=none:=by
   intro l
   induction l with
   |nil=>exact fun _=>rfl
   |cons p l ih=>
    intro hl;unfold M.look;rw[if_neg (fun e=>hl p (by simp) (iz.1 e))];exact ih (fun q hq=>hl q (by simp[hq]))
  refine key _ (fun p hp=> ?_);unfold AZ at hp;rw[List.mem_reverse,List.mem_map] at hp;obtain⟨q,hq,rfl⟩:=hp;exact hno q hq
 |some f=>
  have dr:∀l:List (ByteArray×M.Fn),M.look y l=some f->∃p∈l,p.1=y:=by
   intro l
   induction l with
   |nil=>intro h;cases h
   |cons p l ih=>
    intro h;unfold M.look at h;split at h
    ·next hk=>exact⟨p,by simp,iz.1 hk⟩
    ·obtain⟨q,hq,e⟩:=ih h
     exact⟨q,by simp[hq],e⟩
  obtain⟨p,hp,rfl⟩:=dr _ h;rw[<-h]
  have hall:∀q∈M.fns,M.look q.1 AZ=(M.look q.1 M.fns).map qM:=by
   intro q hq;simp only[M.fns,List.mem_cons,List.not_mem_nil,or_false] at hq;rcases hq with rfl|rfl|rfl|rfl|rfl|rfl|rfl|rfl|rfl|rfl|rfl|rfl|rfl|rfl|rfl<;>rfl
  exact hall p hp
def fL(W0:World)(L:Nat->Bool)(vs:Nat->Value)(w:World):Prop:=Below W0.heap.size W0 w
theorem fL.start(W0:World){L:Nat->Bool}{vs:Nat->Value}:fL W0 L vs {W0 with drawn:=W0.drawn+1}:=⟨rfl,rfl,rfl,n_,fun _ _=>rfl⟩
structure mm(W0:World)(b:Nat)(T:TypeId)(cs:Array Value)(L:Nat->Bool)(vs:Nat->Value)(w:World):Prop where
 below:Below W0.heap.size W0 w
 blk:L b=true->∃g,vs b= .slice (some ⟨g,0,none⟩) 1 1/\W0.heap.size<=g/\ar w g T cs
section
variable {W0 w w':World} {b:Nat} {T:TypeId} {cs:Array Value} {L:Nat->Bool} {vs:Nat->Value}
theorem mm.start(W0:World):mm W0 b T cs (fun _=>false) vs {W0 with drawn:=W0.drawn+1}:=⟨⟨rfl,rfl,rfl,n_,fun _ _=>rfl⟩,fun h=>by cases h⟩
theorem mm.move(h:mm W0 b T cs L vs w)(hb:Below w.heap.size w w'){k:Nat}{v:Value}(hk:k≠b):mm W0 b T cs (upd L k) (aS vs k v) w':=by
 have ea:upd L k b=L b:=by simp[upd,Ne.symm hk]
 have va:aS vs k v b=vs b:=by simp[aS,Ne.symm hk]
 refine⟨h.below.trans (hb.mono h.below.size),?_⟩;rw[ea,va];intro hl;obtain⟨g,e1,e2,e3⟩:=h.blk hl;exact⟨g,e1,e2,e3.below hb e3.lt⟩
theorem mm.pure(h:mm W0 b T cs L vs w){k:Nat}{v:Value}(hk:k≠b):mm W0 b T cs (upd L k) (aS vs k v) w:=h.move (Below.refl _ _) hk
theorem mm.make(h:mm W0 b T cs L vs w):mm W0 b T cs (upd L b) (aS vs b (.slice (some ⟨w.heap.size,0,none⟩) 1 1)) (w.alloc (.cells cs T)):=
 ⟨h.below.alloc h.below.size _,fun _=>⟨w.heap.size,by simp[aS],h.below.size,ar.new _ _ _⟩⟩
end
def yJ:aU Int:=aU.flat (fun i=>[.int .i64 i]) 1 Nat.one_pos (fun _=>True) (fun _=>rfl) (fun _ u hu=>by simp at hu;subst hu;rfl)
structure cN(W0:World)(b:Nat)(L:Nat->Bool)(vs:Nat->Value)(w:World):Prop where
 below:Below W0.heap.size W0 w
 no:L b=false
theorem cN.start(W0:World)(b:Nat){vs:Nat->Value}:cN W0 b (fun _=>false) vs {W0 with drawn:=W0.drawn+1}:=⟨⟨rfl,rfl,rfl,n_,fun _ _=>rfl⟩,rfl⟩
theorem cN.pure{W0 w:World}{b:Nat}{L:Nat->Bool}{vs:Nat->Value}(h:cN W0 b L vs w){k:Nat}{v:Value}(hk:k≠b):cN W0 b (upd L k) (aS vs k v) w:=⟨h.below,by simp[upd,Ne.symm hk,h.no]⟩
theorem cN.on{W0 w w':World}{b:Nat}{L:Nat->Bool}{vs:Nat->Value}(h:cN W0 b L vs w)(hb:Below w.heap.size w w'){k:Nat}{v:Value}(hk:k≠b):cN W0 b (upd L k) (aS vs k v) w':=⟨h.below.trans (hb.mono h.below.size),by simp[upd,Ne.symm hk,h.no]⟩
theorem rj(F:M.Tree->Except Int Int):∀(l:List M.Tree) (kl:List Int),kl.length=l.length->(∀(j:Nat) (t:M.Tree),l[j]? =some t->∃k,kl[j]? =some k/\F t= .ok k)->M.ed F l= .ok kl
 |[],[],_,_=>rfl
 |[],_::_,h,_=>by simp at h
 |t::l,[],h,_=>by simp at h
 |t::l,k::kl,h,ha=>by
  obtain⟨k',e,hk⟩:=ha 0 t rfl;simp at e;subst e;have:=rj F l kl (by simpa using h) (fun j t' hj=>by simpa using ha (j+1) t' (by simpa using hj));simp[M.ed,hk,this]
theorem kz(F:M.Tree->Except Int Int):∀(l:List M.Tree) (j:Nat) (t:M.Tree) (e:Int),l[j]? =some t->F t= .error e->∃e',M.ed F l= .error e'
 |[],j,t,e,h,_=>by simp at h
 |x::l,0,t,e,h,he=>by
  simp at h;subst h;exact⟨e,by simp[M.ed,he]⟩
 |x::l,j+1,t,e,h,he=>by
  obtain⟨e',h'⟩:=kz F l j t e (by simpa using h) he;cases hx:F x with
  |error e2=>exact⟨e2,by simp[M.ed,hx]⟩
  |ok k=>exact⟨e',by simp[M.ed,hx,h']⟩
theorem vB(F:M.Tree->Except Int Int):∀(l:List M.Tree) (kl:List Int),M.ed F l= .ok kl->kl.length=l.length
 |[],kl,h=>by simp[M.ed] at h;subst h;rfl
 |t::l,kl,h=>by
  unfold M.ed at h;split at h
  ·cases h
  ·split at h
   ·cases h
   ·next hk=>cases h;simp[vB F l _ hk]
theorem cF{d:Nat}{cls:Int}{x:M.Node}{ks:List M.Tree}(h:M.jP (d+1) cls (.mk x ks)=true){i:Nat}{t:M.Tree}(hi:ks[i]? =some t):M.jP d (M.wanted x i) t=true:=by
 unfold M.jP at h;simp only[Bool.and_eq_true,List.all_eq_true] at h
 have:=h.2 (t,i) (by
  rw[List.mem_iff_getElem?];exact⟨i,by simp[hi]⟩)
 simpa using this
theorem cU{d:Nat}{cls:Int}{x:M.Node}{ks:List M.Tree}(h:M.jP (d+1) cls (.mk x ks)=true):M.b7 x.op=cls/\M.right x=true/\x.n=(ks.length:Int):=by
 unfold M.jP at h;simp only[Bool.and_eq_true,decide_eq_true_eq] at h;exact⟨h.1.1.1,h.1.1.2,h.1.2⟩
structure dh(w:World)(g mb D:Nat)(f:cy->Option Int)(dests:List ByteArray)(tables:List M.Table)(S:Nat->Prop):Prop where
 blk:∃dA dc tA tc,ar w g 76 #[.slice dA dests.length dc,.slice tA tables.length tc,.map (some mb),.int .i64 D]/\dests.length<=1048576/\bX tA tables.length tc/\bn bN w S dA dests.length dests/\bn cV w S tA tables.length tables
 map:Hl w mb f
 there:∀b,S b->b<w.heap.size
 deep:D<=1000
theorem dh.below{w w':World}{g mb D:Nat}{f:cy->Option Int}{dests:List ByteArray}{tables:List M.Table}{S:Nat->Prop}(h:dh w g mb D f dests tables S)(hb:Below w.heap.size w w'):dh w' g mb D f dests tables S:=by
 obtain⟨dA,dc,tA,tc,h1,h2,h3,h4,h5⟩:=h.blk;exact⟨⟨dA,dc,tA,tc,h1.below hb h1.lt,h2,h3,h4.below hb h.there,h5.below hb h.there⟩,h.map.below hb h.map.lt,fun b hb'=>l_ (h.there b hb') hb.size,h.deep⟩
theorem dh.wide{w:World}{g mb D:Nat}{f:cy->Option Int}{dests:List ByteArray}{tables:List M.Table}{S S':Nat->Prop}(h:dh w g mb D f dests tables S)(hS:∀b,S b->S' b)(ht:∀b,S' b->b<w.heap.size):dh w g mb D f dests tables S':=by
 obtain⟨dA,dc,tA,tc,h1,h2,h3,h4,h5⟩:=h.blk;exact⟨⟨dA,dc,tA,tc,h1,h2,h3,h4.wide hS,h5.wide hS⟩,h.map,ht,h.deep⟩
def fD(f:cy->Option Int)(D:Nat)(env:List (ByteArray×Int)):Prop:=∀name,M.look name env=(dZ f name (D+1)).map Prod.fst
def bU(w:World)(r:Except Int Int)(e:Ending)(w':World):Prop:=
 Below w.heap.size w w'/\match r with
  | .ok k=>e= .returned (.int .i64 k)
  | .error _=>∃ch,e= .panicked ch/\eR ch
theorem bU.ok{w w':World}{r:Except Int Int}{e:Ending}{k:Int}(hr:r= .ok k)(hb:Below w.heap.size w w')(he:e= .returned (.int .i64 k)):bU w r e w':=by subst hr;exact⟨hb,he⟩
theorem bU.err{w w':World}{r:Except Int Int}{e:Ending}(hr:∃x,r= .error x)(hb:Below w.heap.size w w')(he:∃ch,e= .panicked ch/\eR ch):bU w r e w':=by obtain⟨x,rfl⟩:=hr;exact⟨hb,he⟩
def aG(tables:List M.Table):List ByteArray:=tables.map M.Table.name
def vC(d:Nat):Prop:=∀(t:M.Tree) (aN:Bool) (at_:Int) (g mb D:Nat) (f:cy->Option Int) (env:List (ByteArray×Int)) (dests:List ByteArray) (tables:List M.Table) (S:Nat->Prop) (A:Option Addr) (c:Nat) (w:World),
 M.jP d 3 t=true->M.mh t->dh w g mb D f dests tables S->fD f D env->bX A (M.flat t).length c->bn ENode w S A (M.flat t).length (M.flat t)->
 Calls Tryz.prog 143 #[.pointer (some ⟨g,0,none⟩),.slice A (M.flat t).length c,.int .i64 at_,.bool aN] w (bU w (M.bG (aG tables) env d aN t))
def PC(d:Nat):Prop:=∀(x:M.Node) (ks:List M.Tree) (aN:Bool) (at_:Int) (g mb D:Nat) (f:cy->Option Int) (env:List (ByteArray×Int)) (dests:List ByteArray) (tables:List M.Table) (S:Nat->Prop) (A:Option Addr) (c:Nat) (w:World),
 M.jP (d+1) 3 (.mk x ks)=true->M.mh (.mk x ks)->x.op=23->dh w g mb D f dests tables S->fD f D env->bX A (M.flat (.mk x ks)).length c->bn ENode w S A (M.flat (.mk x ks)).length (M.flat (.mk x ks))->
 Calls Tryz.prog 183 #[.pointer (some ⟨g,0,none⟩),.slice A (M.flat (.mk x ks)).length c,.int .i64 at_] w (bU w (M.bG (aG tables) env (d+1) aN (.mk x ks)))
def vD:Array Value:=#[.slice none 0 0,.int .i64 0,.int .i64 0,.bool false]
def gO(w:World)(q:Option M.Fn)(v:Value):Prop:=match q with
 |some fn=>∃mb,XU w mb v (qM fn)
 |none=>v= .agg vD
theorem gO.keep{w w':World}{q:Option M.Fn}{v:Value}(h:gO w q v)(hb:∀b T cs,ar w b T cs->T=3->w'.heap[b]? =w.heap[b]?):gO w' q v:=by
 unfold gO at h⊢;split at h
 ·obtain⟨mb,A,e,h2⟩:=h
  refine⟨mb,A,e,h2.imp id ?_⟩;rintro⟨b,e,h3,h4⟩;exact⟨b,e,h3,(hb b _ _ h4 rfl).trans h4⟩
 ·exact h
theorem gO.stays{w w':World}{q:Option M.Fn}{v:Value}(h:gO w q v)(hb:Below w.heap.size w w'):gO w' q v:=h.keep (fun b T cs hk _=>hb.block b hk.lt)
structure qN(W0:World)(q:Option M.Fn)(L:Nat->Bool)(vs:Nat->Value)(w:World):Prop where
 below:Below W0.heap.size W0 w
 f0:L 0=true->∃b,vs 0= .map (some b)/\dG w b AZ
 f3:L 3=true->∃v,vs 3= .tuple #[v,.bool q.isSome]/\gO w q v
 f4:L 4=true->∃v,vs 4= .tuple #[v,.bool q.isSome]/\gO w q v
 f5:L 5=true->gO w q (vs 5)
 f7:L 7=true->∃g,vs 7= .pointer (some ⟨g,0,none⟩)/\W0.heap.size<=g/\(L 8=false->ar w g 282 vD)/\(L 8=true->∃cs,vs 5= .agg cs/\ar w g 282 cs)
 w8:L 8=true->L 7=true/\L 5=true
section
variable {W0 w w':World} {q:Option M.Fn} {L:Nat->Bool} {vs:Nat->Value}
theorem qN.start(W0:World):qN W0 q (fun _=>false) vs {W0 with drawn:=W0.drawn+1}:=
 ⟨⟨rfl,rfl,rfl,n_,fun _ _=>rfl⟩,(fun h=>by cases h),(fun h=>by cases h),(fun h=>by cases h),(fun h=>by cases h),(fun h=>by cases h),(fun h=>by cases h)⟩
theorem bj{k j:Nat}{v:Value}(h:j≠k):aS vs k v j=vs j:=by simp[aS,h]
theorem upd_ne{k j:Nat}(h:j≠k):upd L k j=L j:=by simp[upd,h]
theorem qN.on(h:qN W0 q L vs w)(hb:Below w.heap.size w w'):qN W0 q L vs w':=by
 refine⟨h.below.trans (hb.mono h.below.size),fun hl=> ?_,fun hl=> ?_,fun hl=> ?_,fun hl=>(h.f5 hl).stays hb,fun hl=> ?_,h.w8⟩
 ·obtain⟨b,e,h1⟩:=h.f0 hl
  exact⟨b,e,h1.below hb⟩
 ·obtain⟨v,e,h1⟩:=h.f3 hl
  exact⟨v,e,h1.stays hb⟩
 ·obtain⟨v,e,h1⟩:=h.f4 hl
  exact⟨v,e,h1.stays hb⟩
 ·obtain⟨g,e1,e2,e3,e4⟩:=h.f7 hl
  exact⟨g,e1,e2,fun h8=>(e3 h8).below hb (e3 h8).lt,fun h8=>by obtain⟨cs,e5,e6⟩:=e4 h8;exact⟨cs,e5,e6.below hb e6.lt⟩⟩
theorem qN.pure(h:qN W0 q L vs w){k:Nat}{v:Value}(h0:k≠0)(h3:k≠3)(h4:k≠4)(h5:k≠5)(h7:k≠7)(h8:k≠8):qN W0 q (upd L k) (aS vs k v) w:=by
 refine⟨h.below,?_,?_,?_,?_,?_,?_⟩
 ·rw[upd_ne (Ne.symm h0),bj (Ne.symm h0)];exact h.f0
 ·rw[upd_ne (Ne.symm h3),bj (Ne.symm h3)];exact h.f3
 ·rw[upd_ne (Ne.symm h4),bj (Ne.symm h4)];exact h.f4
 ·rw[upd_ne (Ne.symm h5),bj (Ne.symm h5)];exact h.f5
 ·rw[upd_ne (Ne.symm h7),bj (Ne.symm h7),upd_ne (Ne.symm h8),bj (Ne.symm h5)];exact h.f7
 ·rw[upd_ne (Ne.symm h8),upd_ne (Ne.symm h7),upd_ne (Ne.symm h5)];exact h.w8
theorem qN.jb1(h:qN W0 q L vs w){b:Nat}(hm:dG w b AZ):qN W0 q (upd L 0) (aS vs 0 (.map (some b))) w:=by
 refine⟨h.below,fun _=>⟨b,by simp[aS],hm⟩,?_,?_,?_,?_,?_⟩
 ·rw[upd_ne (by decide),bj (by decide)];exact h.f3
 ·rw[upd_ne (by decide),bj (by decide)];exact h.f4
 ·rw[upd_ne (by decide),bj (by decide)];exact h.f5
 ·rw[upd_ne (by decide),bj (by decide),upd_ne (by decide),bj (by decide)];exact h.f7
 ·rw[upd_ne (by decide),upd_ne (by decide),upd_ne (by decide)];exact h.w8
theorem qN.jb2(h:qN W0 q L vs w){v:Value}(hv:gO w q v):qN W0 q (upd L 3) (aS vs 3 (.tuple #[v,.bool q.isSome])) w:=by
 refine⟨h.below,?_,fun _=>⟨v,by simp[aS],hv⟩,?_,?_,?_,?_⟩
 ·rw[upd_ne (by decide),bj (by decide)];exact h.f0
 ·rw[upd_ne (by decide),bj (by decide)];exact h.f4
 ·rw[upd_ne (by decide),bj (by decide)];exact h.f5
 ·rw[upd_ne (by decide),bj (by decide),upd_ne (by decide),bj (by decide)];exact h.f7
 ·rw[upd_ne (by decide),upd_ne (by decide),upd_ne (by decide)];exact h.w8
theorem qN.LG(h:qN W0 q L vs w){v:Value}(hv:gO w q v):qN W0 q (upd L 4) (aS vs 4 (.tuple #[v,.bool q.isSome])) w:=by
 refine⟨h.below,?_,?_,fun _=>⟨v,by simp[aS],hv⟩,?_,?_,?_⟩
 ·rw[upd_ne (by decide),bj (by decide)];exact h.f0
 ·rw[upd_ne (by decide),bj (by decide)];exact h.f3
 ·rw[upd_ne (by decide),bj (by decide)];exact h.f5
 ·rw[upd_ne (by decide),bj (by decide),upd_ne (by decide),bj (by decide)];exact h.f7
 ·rw[upd_ne (by decide),upd_ne (by decide),upd_ne (by decide)];exact h.w8
theorem qN.XV(h:qN W0 q L vs w)(hL:L 5=false){v:Value}(hv:gO w q v):qN W0 q (upd L 5) (aS vs 5 v) w:=by
 have h8:L 8=false:=by cases hc:L 8 with|false=>rfl|true=>rw[(h.w8 hc).2] at hL;cases hL
 refine⟨h.below,?_,?_,?_,fun _=>by simpa[aS] using hv,?_,?_⟩
 ·rw[upd_ne (by decide),bj (by decide)];exact h.f0
 ·rw[upd_ne (by decide),bj (by decide)];exact h.f3
 ·rw[upd_ne (by decide),bj (by decide)];exact h.f4
 ·rw[upd_ne (by decide),bj (by decide),upd_ne (by decide),h8]
  intro hl;obtain⟨g,e1,e2,e3,e4⟩:=h.f7 hl;exact⟨g,e1,e2,fun _=>e3 h8,fun h=>by cases h⟩
 ·rw[upd_ne (by decide),h8];intro h;cases h
theorem qN.jb3(h:qN W0 q L vs w)(hL:L 7=false):qN W0 q (upd L 7) (aS vs 7 (.pointer (some ⟨w.heap.size,0,none⟩))) (w.alloc (.cells vD 282)):=by
 have h8:L 8=false:=by cases hc:L 8 with|false=>rfl|true=>rw[(h.w8 hc).1] at hL;cases hL
 have h1:=h.on (aj.alloc w (.cells vD 282));refine⟨h1.below,?_,?_,?_,?_,fun _=>⟨w.heap.size,by simp[aS],h.below.size,fun _=>ar.new _ _ _,?_⟩,?_⟩
 ·rw[upd_ne (by decide),bj (by decide)];exact h1.f0
 ·rw[upd_ne (by decide),bj (by decide)];exact h1.f3
 ·rw[upd_ne (by decide),bj (by decide)];exact h1.f4
 ·rw[upd_ne (by decide),bj (by decide)];exact h1.f5
 ·rw[upd_ne (by decide),h8];intro h;cases h
 ·rw[upd_ne (by decide),h8];intro h;cases h
theorem qN.jb4(h:qN W0 q L vs w){g:Nat}{cs:Array Value}(h7:L 7=true)(h5:L 5=true)(hv7:vs 7= .pointer (some ⟨g,0,none⟩))(Cn:vs 5= .agg cs)(dS:W0.heap.size<=g)(r5:∃cs0,ar w g 282 cs0)(hk:ar w' g 282 cs)(hg:w.grownBy w' (some g))(v:Value):qN W0 q (upd L 8) (aS vs 8 v) w':=by
 obtain⟨cs0,r5⟩:=r5
 have hint:∀b T cs',ar w b T cs'->T=3->w'.heap[b]? =w.heap[b]? :=fun b T cs' hb hT=>hg.block b hb.lt (fun e=>by
  injection e with e;subst e hT;have:=r5.symm.trans hb;injection this with this;injection this with _ this _;exact absurd this (by decide))
 have hmap:∀b,dG w b AZ->dG w' b AZ:=by
  rintro b ⟨F,h1,h2⟩
  have hbg:b≠g:=fun e=>by
   subst e;obtain⟨es,clock,hb,_⟩:=h1;have:=r5.symm.trans hb;injection this with this;cases this
  refine⟨F,h1.keep (hg.block b h1.lt (fun e=>hbg (by injection e))),fun y=> ?_⟩;have:=h2 y;split at this
  ·next q' hq=>
   obtain⟨v',hv',A,e,hA⟩:=this;refine⟨v',hv',A,e,hA.imp id ?_⟩;rintro⟨b',e',h3,h4⟩;exact⟨b',e',h3,(hint b' _ _ h4 rfl).trans h4⟩
  ·next hq=>exact this
 refine⟨ai h.below hg dS,?_,?_,?_,?_,?_,fun _=> ?_⟩
 ·rw[upd_ne (by decide),bj (by decide)]
  intro hl;obtain⟨b,e,h1⟩:=h.f0 hl;exact⟨b,e,hmap b h1⟩
 ·rw[upd_ne (by decide),bj (by decide)]
  intro hl;obtain⟨v,e,h1⟩:=h.f3 hl;exact⟨v,e,h1.keep hint⟩
 ·rw[upd_ne (by decide),bj (by decide)]
  intro hl;obtain⟨v,e,h1⟩:=h.f4 hl;exact⟨v,e,h1.keep hint⟩
 ·rw[upd_ne (by decide),bj (by decide)]
  intro hl;exact(h.f5 hl).keep hint
 ·rw[upd_ne (by decide),bj (by decide),bj (by decide)]
  intro _;exact⟨g,hv7,dS,(fun h=>by simp[upd] at h),fun _=>⟨cs,Cn,hk⟩⟩
 ·rw[upd_ne (by decide),upd_ne (by decide)]
  exact⟨h7,h5⟩
theorem gO.agg{v:Value}(h:gO w q v):∃A n t s b,v= .agg #[.slice A n n,.int .i64 t,.int .i64 s,.bool b]:=by
 unfold gO at h;split at h
 ·obtain⟨mb,A,e,_⟩:=h
  exact⟨_,_,_,_,_,e⟩
 ·exact⟨_,_,_,_,_,h⟩
theorem LG{g:Nat}{t:TypeId}{a b c d:Value}(h:ar w g t vD):ar ((((w.setCell ⟨g,0,none⟩ a).setCell ⟨g,1,none⟩ b).setCell ⟨g,2,none⟩ c).setCell ⟨g,3,none⟩ d) g t #[a,b,c,d]/\w.grownBy ((((w.setCell ⟨g,0,none⟩ a).setCell ⟨g,1,none⟩ b).setCell ⟨g,2,none⟩ c).setCell ⟨g,3,none⟩ d) (some g):=
 ⟨(((h.fK 0 a).fK 1 b).fK 2 c).fK 3 d,(((aV _ _ _ _).trans (aV _ _ _ _)).trans (aV _ _ _ _)).trans (aV _ _ _ _)⟩
theorem PD{b:Nat}(h:dG w b AZ)(text:ByteArray)(ht:text.size<=1048576):∃v,(Instr.lookup 284 (.map (some b)) (.string text) true).run Tryz.prog w= .ok (.tuple #[v,.bool (M.look text M.fns).isSome]) w/\gO w (M.look text M.fns) v:=by
 obtain⟨F,h1,h2⟩:=h;have hl:=h1.look gq Tryz.underlying284 str_inj (gu text ht) (Tryz.zeroValue282 w) true;have h3:=h2 text;rw[PA] at h3;cases hq:M.look text M.fns with
 |none=>
  rw[hq] at h3;have h3:F text=none:=h3;rw[h3] at hl;exact⟨_,hl,rfl⟩
 |some fn=>
  rw[hq] at h3;obtain⟨v,hv,hf⟩:∃v,F text=some v/\XU w b v (qM fn):=h3;rw[hv] at hl;exact⟨v,hl,b,hf⟩
end
theorem DO:Enters Tryz.prog 258:=fun _ _=>rfl
theorem PE(tn:ByteArray)(tv:Value)(V0:Nat)(lA ad:Addr)(n lc m c:Nat)(text:ByteArray)(w:World)(hb:ar w V0 132 #[.slice (some lA) n lc])(hn:0<n)(hl:w.cell? lA=some (.slice (some ad) m c))(hm:0<m)(hx:w.cell? ⟨ad.block,ad.off+2,none⟩=some (.string text))(hlA:lA.block<w.heap.size)(had:ad.block<w.heap.size):
 Calls Tryz.prog 258 #[.agg #[.string tn,tv],.pointer (some ⟨V0,0,none⟩)] w fun e w'=>e= .returned (.bool (M.bJ tn text))/\Below w.heap.size w w':=by
 obtain⟨w1,bu⟩:∃w1,w1=w.alloc (.cells #[.string tn,tv] 266):=⟨_,rfl⟩
 have X1:=q_ (show ar w1 w.heap.size 266 #[.string tn,tv] from bu▸ar.new w _ _);have B1:=q_ (show Below w.heap.size w w1 from bu▸(Below.refl _ w).alloc (n_) _);have Y1:=q_ (show ar w1 V0 132 #[.slice (some lA) n lc] from bu▸hb.alloc _);have L1:=q_ ((B1.o.cell (p:=lA) hlA).trans hl);have E1:=q_ ((B1.o.cell (p:=⟨ad.block,ad.off+2,none⟩) had).trans hx);have hs:=B1.o.size;have he:=fy tn text;generalize M.bJ tn text=q at*;clear hb hl hx;go_enter Tryz.func258,Tryz.ntmps258;go_wp2_with fail;rw[<-bu];clear bu;refine aO 9 [] aj (fun _=>none) (by kernel_rfl) (by kernel_rfl) aj.refl (by simp) (aj.draw _) aj.trans ?_ ?_
 ·intro j φ u x y hB hp jK
  cases hB
 iterate 9
  apply au rfl rfl
  ·intro vs wx hk K hK
   first
   |have c0:=fun i=>(X1.o.stays hk.1).cell i
    go_simp;exact hK _ (aj.refl _)
   |have c0:=fun i=>(Y1.o.stays hk.1).cell i
    go_simp;exact hK _ (aj.refl _)
   |have c0:=(hk.1.cell (p:=lA) (by omega)).trans L1.o
    go_simp;exact hK _ (aj.refl _)
   |have c0:=(hk.1.cell (p:=⟨ad.block,ad.off+2,none⟩) (by show ad.block<_;omega)).trans E1.o
    go_simp;exact hK _ (aj.refl _)
  intro KK af;go_simp;refine af _ ?_;clear af KK
 refine bg ?_;intro vs w2 hs2 hv2;intro KK af;have B2:=q_ (Kn B1.o hs2);clear hs2 hv2;simp only[List.drop_succ_cons];go_wp2;go_ret;exact⟨rfl,B2.o⟩
end
end Go.Proofs.YtpohlhkgbmdieaaGreatDoor
