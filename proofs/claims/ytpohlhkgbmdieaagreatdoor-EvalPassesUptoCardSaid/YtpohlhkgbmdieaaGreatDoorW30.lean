/- Part 30 of the proof. -/
import Derived.Test.YtpohlhkgbmdieaaGreatDoorW29
set_option linter.unusedVariables false
set_option maxRecDepth 1000000
set_option maxHeartbeats 16000000
namespace Go.Proofs.YtpohlhkgbmdieaaGreatDoor
variable{F:Nat}{Mu S:Nat->Prop}{d:Nat}{dests:List ByteArray}{env cS:List (ByteArray×Int)}{g:Nat}{p:PV}{w:World}
open Go Go.RowKit Go.BigFrame Go.Maps Go.WideMaps
theorem JW:Keyed Tryz.prog 3:=int_keyed Tryz.underlying3
theorem int_inj:∀x y:Int,Value.int .i64 x=Value.int .i64 y->x=y:=fun x y h=>by injection h
theorem JX(n:Int)(h:1<=n/\n<=6):keyOf Tryz.prog 3 (.int .i64 n)=some (.int .i64 n):=keyOf_int_mk Tryz.underlying3 (by rcases(show n=1\/n=2\/n=3\/n=4\/n=5\/n=6 by omega) with rfl|rfl|rfl|rfl|rfl|rfl<;>decide)
theorem cD.from{w1 w':World}{c:M.Cx}{r:Except Int M.St×Nat}{e:Ending}(ht:ax Mu w w1)(h:cD w1 g Mu c F r e w'):cD w g Mu c F r e w':=by
 obtain⟨r,k⟩:=r;cases r with
 |ok JR=>
  obtain⟨h1,h2,ml,S',p',JS,b1,b2,b3⟩:=h.oV;exact cD.ok rfl (ht.trans h1 (fun _ _ h=>h)) h2 b1 b2 (fun b hb=>b3 b (l_ hb ht.size))
 |error er=>
  obtain⟨h1,h2,p',b2⟩:=h.kJ;exact cD.err rfl (ht.trans h1 (fun _ _ h=>h)) h2 b2
def WN(pb lb xb:Nat):List (Int×Value):=
 [(6,xE 130 [pb]),(5,xE 128 [pb,xb]),(4,xE 126 [pb,xb,lb]),(3,xE 124 [pb,xb]),(2,xE 121 [pb,xb,lb]),(1,xE 119 [pb,lb])]
theorem MN{pb lb xb:Nat}{SP:Nat->Prop}{c:M.Cx}{st:M.St}{bs:List Nat}{u:Nat}{x:M.Node}{ks:List M.Tree}{A1:Option Addr}{c1:Nat}(h:xL w g pb lb xb Mu S SP c st p bs F u x ks A1 c1)(hT:M.jP (d+1) 2 (.mk x ks)=true)(oX:M.pz ks)(cj:M.bh dests (aG c.tables) (d+1) env (.mk x ks)= .ok cS)(hbl:MH d)(hsc:st.scopes.length+d<=100):
 ∃LY nP,assoc x.op (WN pb lb xb)=some (.func (.func LY) #[] nP)/\Enters Tryz.prog LY/\Calls Tryz.prog LY nP w (cD w g Mu c F (M.cut F u (M.iB c d st x ks))):=by
 obtain⟨dM,fj,fk⟩:=cU hT;have rD:=rE dM;have ep:=gT fj
 have hlen:x.op=1\/x.op=2\/x.op=4->0<ks.length:=fun hx=>by
  have h1:1<=M.cd x.op:=by rcases hx with hx|hx|hx<;>rw[hx]<;>decide
  omega
 rcases(show x.op=1\/x.op=2\/x.op=3\/x.op=4\/x.op=5\/x.op=6 by omega) with hop|hop|hop|hop|hop|hop
 ·exact⟨_,_,by rw[hop];rfl,fun _ _=>rfl,U6 h hop (hlen (by omega)) hT oX cj hbl hsc⟩
 ·exact⟨_,_,by rw[hop];rfl,fun _ _=>rfl,U7 h hop (hlen (by omega)) hT oX cj⟩
 ·exact⟨_,_,by rw[hop];rfl,fun _ _=>rfl,U8 h hop hT⟩
 ·exact⟨_,_,by rw[hop];rfl,fun _ _=>rfl,U5 h hop (hlen (by omega)) hT oX cj⟩
 ·exact⟨_,_,by rw[hop];rfl,fun _ _=>rfl,U9 h hop⟩
 ·exact⟨_,_,by rw[hop];rfl,fun _ _=>rfl,UZ h hop⟩
theorem Ve:U4 0:=fun t _ _ _ _ _ _ _ _ _ _ _ _ _ _ _ _ h=>by simp[M.jP] at h
theorem Vf:MH 0:=fun t _ _ _ _ _ _ _ _ _ _ _ _ _ _ _ _ h=>by simp[M.jP] at h
theorem YK(d:Nat)(hbl:MH d):U4 (d+1):=by
 intro t g Mu S N c st p bs F u dests env cS A cap w hT bf cj hp hgb hF hu hN jbh hsc hro aI hl;cases t with
 |mk x ks=>
 have hm:=aI.le;obtain⟨dM,fj,fk⟩:=cU hT;have rD:=rE dM;have kf:M.flat (.mk x ks)=x::M.bB ks:=by unfold M.flat;rfl
 have HST:=q_ (M.wk (c:=c) (d:=d) (s:=st) (x:=x) (ks:=ks) (by omega));have Bf:=q_ bf;have nk:=q_ aI;have HL:=q_ hl;have HT:=q_ hT;have HP:=q_ hp;have HG:=q_ (show g<w.heap.size from hgb.lt);have Mt:=q_ hp.gM;have YL:=q_ hp.mu;have Ma:=q_ hgb;have HN:=q_ hN;have Ky:=q_ hbl;have HLK:=q_ cj;have HCL:=q_ rD;have Il:=q_ (show F<=2000/\u<=F/\1<=st.scopes.length/\st.scopes.length+(d+1)<=100/\st.routes.length<=u from⟨hF,hu,jbh,hsc,hro⟩);have hl0:=hl;rw[kf] at hl0;obtain⟨ad,rfl,yx,kE,e0,he⟩:=dy hl0;have UC:=q_ kE;have sT:=M.eC (.mk x ks)
 have UD:ks.length<=1048576:=by
  have h1:=M.dx ks;have h2:(M.flat (.mk x ks)).length=(M.bB ks).length+1:=by rw[kf];rfl
  omega
 have iX:=q_ (show M.pz ks by unfold M.mh at bf;exact bf.2);have UE:=q_ (show ad.block<w.heap.size/\ad.block≠g from⟨(hN _ yx).1,fun e=>(hN _ yx).2 (e▸hp.gM)⟩);have E0:=q_ e0;have EI:=q_ he;generalize Jo:(M.flat (.mk x ks)).length=m at*;clear hl0 hl hN hgb hp bf aI hT kf dM fj fk he e0 kE rD hF hu jbh hsc hro hbl cj yx;have ZU:=q_ (ar.new w 58 #[.pointer (some ⟨g,0,none⟩)]);have B1:=q_ ((Below.refl _ w).alloc (n_) (.cells #[.pointer (some ⟨g,0,none⟩)] 58));go_enter Tryz.func77,Tryz.ntmps77;go_wp2_with fail;generalize w.alloc (.cells #[.pointer (some ⟨g,0,none⟩)] 58)=w1 at ZU B1⊢;have z1:=ZU.o.cell;go_wp2_with fail;refine(vr w1 g p F u Il.o.1 Il.o.2.1 (Ma.o.below B1.o HG.o)).mono ?_
 rintro e w2 (⟨hlt,rfl,h1,h2⟩|⟨SU,rfl,h1⟩);rotate_left
 ·have HE:=q_ (show M.cut F u (M.aQ c (d+1) st (.mk x ks))=(.error 83,u) by rw[HST.o];subst SU;exact M.DD)
  have G2:=q_ ((Ma.o.below B1.o HG.o).below h1 (l_ HG.o B1.o.size));have T2:=q_ (show ax Mu w w2 from ax.of (B1.o.trans (h1.mono B1.o.size)));clear SU h1;unfold dt;go_wp2;exact⟨rfl,cD.err HE.o T2.o rfl G2.o⟩
 have LT:=q_ hlt;have MO:=q_ (show M.cut F u (M.aQ c (d+1) st (.mk x ks))=M.cut F (u+1) (M.iB c d st x ks) by rw[HST.o];exact M.pR hlt);have T2:=q_ (show aW g w w2 from(show aW g w w1 from ax.of B1.o).tr h1);have rG:=q_ h2;have PB2:=q_ (h1.blk ZU.o (by have:=HG.o;omega));clear h1 h2 hlt z1;have K:=fun(q:Addr) (h:q.block=ad.block)=>T2.o.cell (p:=q) (by rw[h];exact UE.o.1) (by rw[h];exact UE.o.2);have e0:=(K ad rfl).trans E0.o;have e1:=(K ⟨ad.block,ad.off+1,none⟩ rfl).trans (EI.o 0 _ rfl);have e2:=(K ⟨ad.block,ad.off+2,none⟩ rfl).trans (EI.o 1 _ rfl);have e3:=(K ⟨ad.block,ad.off+3,none⟩ rfl).trans (EI.o 2 _ rfl);have e4:=(K ⟨ad.block,ad.off+4,none⟩ rfl).trans (EI.o 3 _ rfl);have e5:=(K ⟨ad.block,ad.off+5,none⟩ rfl).trans (EI.o 4 _ rfl);have e6:=(K ⟨ad.block,ad.off+6,none⟩ rfl).trans (EI.o 5 _ rfl);have e7:=(K ⟨ad.block,ad.off+7,none⟩ rfl).trans (EI.o 6 _ rfl);have e8:=(K ⟨ad.block,ad.off+8,none⟩ rfl).trans (EI.o 7 _ rfl);have e9:=(K ⟨ad.block,ad.off+9,none⟩ rfl).trans (EI.o 8 _ rfl);clear K;have hcp:m<=cap:=nk.o.2.1
 have XB3:=q_ (ar.new w2 129 #[.int .i64 0,.int .i64 0,.string ⟨#[]⟩,.int .i64 0,.string ⟨#[]⟩,.int .i64 0,.int .i64 0,.int .i64 0,.int .i64 0,.int .i64 0]);have B3:=q_ ((Below.refl _ w2).alloc (n_) (.cells #[.int .i64 0,.int .i64 0,.string ⟨#[]⟩,.int .i64 0,.string ⟨#[]⟩,.int .i64 0,.int .i64 0,.int .i64 0,.int .i64 0,.int .i64 0] 129));have hs2:w.heap.size+1<=w2.heap.size:=by have:=PB2.o.lt;omega
 have S2:=q_ hs2;clear hs2;go_wp2_with (refine ah (cs':=#[.int .i64 x.op,.int .i64 x.n,.string x.text,.int .i64 x.num,.string x.path.aN,.int .i64 x.path.aP,.int .i64 x.path.aR,.int .i64 x.path.rep,.int .i64 x.path.comp,.int .i64 x.path.sub]) rfl 129 (.tmp 4) (.tmp 12) rfl w2.heap.size (by rfl) (by rfl) XB3.o rfl (by kernel_rfl) (by simp[Value.oneCell']) ?_;intro w4 k4 g4;have Z9:=q_ k4;have B4:=q_ (ai B3.o g4 (n_));clear k4 g4 e0 e1 e2 e3 e4 e5 e6 e7 e8 e9;have T4:=q_ (show aW g w w4 from T2.o.tr (ax.of B4.o)));have SN4:=q_ (show∀b,N b->b<w4.heap.size/\b≠g from fun b h=>⟨l_ (HN.o b h).1 T4.o.size,fun e=>(HN.o b h).2 (e▸Mt.o)⟩);refine(fh x ks Bf.o (some ad) m cap N w4 (fun b h=>(SN4.o b h).1) nk.o (T4.o.nu HL.o (fun b h=>⟨(HN.o b h).1,(SN4.o b h).2⟩))).mono ?_
 rintro e w5 ⟨A1,c1,A2,c2,rfl,kY,hk2,dF,hl2,cT⟩;have P1:=q_ dF;have fS:=q_ kY;have B5:=q_ (B4.o.trans (cT.mono B4.o.size));have LB6:=q_ (ar.new w5 132 #[.slice none 0 0]);have B6:=q_ ((Below.refl _ w5).alloc (n_) (.cells #[.slice none 0 0] 132));have Ww:=q_ (Z9.o.below cT Z9.o.lt);have B45:=q_ cT;clear kY hk2 dF hl2 cT;have Al:= @run_makeMap Tryz.prog;have Tu:∀(fn:Fn) (first cap:Array Value) (w:World),(Instr.makeFunc fn first cap).run Tryz.prog w= .ok (.func fn first cap) w:=fun _ _ _ _=>rfl
 go_wp2_with (first
  |(refine bH rfl 132 (.tmp 5) (.tmp 16) rfl w5.heap.size 0 (.slice A1 ks.length c1) _ (by rfl) (by rfl) (LB6.o.cell 0) (LB6.o.frozen 0) (by kernel_rfl) (by rfl) ?_;intro w7 Yj
    have g7:(w5.alloc (.cells #[.slice none 0 0] 132)).grownBy w7 (some w5.heap.size):=Yj▸aV _ w5.heap.size 0 _;have LB7:=q_ (show ar w7 w5.heap.size 132 #[.slice A1 ks.length c1] from Yj▸LB6.o.one_set _);have B57:=q_ (ai B6.o g7 (n_));have B7:=q_ (B5.o.trans ((ai B6.o g7 (n_)).mono B5.o.size));have HM:=q_ (rz.made 3 (Value.int .i64) w7);have HB:=q_ ((Below.refl _ w7).alloc (n_) (.map #[] 0));clear Yj g7 LB6 B6)
  |(refine ll (by rfl) _ _ _ _ _ (by rfl) Tryz.underlying186 JW int_inj _ _ _ HM.o (by rfl) (by rfl) (by rfl) ⟨_,JX _ (by decide)⟩ ?_;intro wm VV hg1;have HB:=q_ (ai HB.o hg1 (n_));have HM:=q_ VV;clear VV hg1
    try
     have Hz:rz 3 (Value.int .i64) wm w7.heap.size (WN w.heap.size w5.heap.size w2.heap.size):=HM.o;have T9:=q_ (show aW g w wm from T2.o.tr (ax.of (B7.o.trans (HB.o.mono B7.o.size))));have jco:w2.heap.size<=w7.heap.size:=B7.o.size;have hs5:=LB7.o.lt;have UH:=q_ (PB2.o.below (B7.o.trans (HB.o.mono B7.o.size)) PB2.o.lt);have XB9:=q_ ((Ww.o.below B57.o Ww.o.lt).below HB.o (l_ Ww.o.lt B57.o.size));have LB9:=q_ (LB7.o.below HB.o LB7.o.lt)
     have ST:=q_ (show xL wm g w.heap.size w5.heap.size w2.heap.size Mu S (fun b=>N b\/New w4 w5 b) c st p bs F (u+1) x ks A1 c1 from
      ⟨HP.o.only T9.o,(rG.o.below (B7.o.trans (HB.o.mono B7.o.size)) rG.o.lt),UH.o,LB9.o,XB9.o,⟨fun h=>by have:=YL.o _ h;omega,fun h=>by have:=YL.o _ h;have:=B5.o.size;have:=S2.o;omega,fun h=>by have:=YL.o _ h;have:=S2.o;omega⟩,UC.o,fS.o,
       (P1.o.below B57.o (fun b h=>h.elim (fun h=>l_ (SN4.o b h).1 B45.o.size) (fun h=>h.2))).below HB.o (fun b h=>l_ (h.elim (fun h=>l_ (SN4.o b h).1 B45.o.size) (fun h=>h.2)) B57.o.size),
       fun b h=>⟨l_ (h.elim (fun h=>l_ (SN4.o b h).1 B45.o.size) (fun h=>h.2)) (t_ B57.o.size HB.o.size),h.elim (fun h=>(HN.o b h).2) (fun h hm=>by have:=YL.o _ hm;have:=h.1;have:=B4.o.size;have:=S2.o;omega)⟩,
       LT.o,Il.o.1,Il.o.2.2.1,by have:=Il.o.2.2.2.2;omega⟩)
     obtain⟨LY,nP,Qx,Qy,iv⟩:=MN ST.o HT.o iX.o HLK.o Ky.o (by have:=Il.o.2.2.2.1;omega);have hl:=rz.look Hz JW Tryz.underlying186 int_inj (JX x.op HCL.o) (Tryz.zeroValue1 wm) Qx;have Qz:=q_ iv;have heg:∀args w,(callFunc LY args).run Tryz.prog w= .ok (.enter LY args) w:=Qy;have x0:=XB9.o.cell 0;clear Hz Qx Qy iv jco hs5)
  |fail)
 refine Qz.o.mono ?_;rintro e w9 he;have HE:=q_ (cD.from (T9.o.mu Mt.o) he);clear he hl x0;cases hr:M.cut F (u+1) (M.iB c d st x ks) with
 |mk r k=>
 rw[hr] at HE MO;cases r with
 |error er=>
  obtain⟨-,rfl,-⟩:=HE.o.kJ;unfold dt at*;go_wp2;exact⟨rfl,MO.o▸HE.o⟩
 |ok JR=>
  obtain⟨-,rfl,-⟩:=HE.o.oV;go_wp2;go_end0;exact MO.o▸HE.o
namespace M
def Ro(s s':St)(k:Nat):Prop:=s'.scopes.length=s.scopes.length/\s'.routes.length<=s.routes.length+k
theorem mP{f:St->Tree->Except Int St×Nat}(hf:∀s t s' k,f s t=(.ok s',k)->Ro s s' k):∀(l:List Tree) (s s':St) (k:Nat),bA f s l=(.ok s',k)->Ro s s' k
 |[],s,s',k,h=>by
  unfold bA at h;injection h with h1 h2;cases h1;exact⟨rfl,by omega⟩
 |t::l,s,s',k,h=>by
  unfold bA at h;split at h
  ·exact mP hf l s s' k h
  ·cases hq:f s t with
   |mk r j=>
    rw[hq] at h;cases r with
    |error e=>simp only at h;injection h with h1 h2;cases h1
    |ok s1=>
     simp only at h;cases hl:bA f s1 l with
     |mk r2 j2=>
      rw[hl] at h;simp only at h;injection h with h1 h2;subst h1 h2;have a:=hf s t s1 j hq;have b:=mP hf l s1 s' j2 hl;exact⟨b.1.trans a.1,by have:=a.2;have:=b.2;omega⟩
theorem MP(scopes:List Scope)(name:ByteArray)(v:Val):(jT scopes name v).length=scopes.length:=by
 unfold jT;simp
theorem jv(c:Cx):∀(d:Nat) (s:St) (t:Tree) (s':St) (k:Nat),aQ c d s t=(.ok s',k)->Ro s s' k
 |0,s,t,s',k,h=>by unfold aQ at h;injection h with h1 h2;cases h1
 |d+1,s,.mk x ks,s',k,h=>by
  by_cases hx:x.op=0
  ·unfold aQ at h
   rw[if_pos hx] at h;cases hq:bA (aQ c d) {s with scopes:=s.scopes++[fun _=>none]} ks with
   |mk r j=>
    rw[hq] at h;cases r with
    |error e=>simp only at h;injection h with h1 h2;cases h1
    |ok s1=>
     simp only at h;injection h with h1 h2;have a:=mP (jv c d) ks _ s1 j hq;cases h1;refine⟨?_,by have:=a.2;simp only at this⊢;omega⟩;have:=a.1;simp only[List.length_append,List.length_cons,List.length_nil] at this;simp only[List.length_take];omega
  ·rw[wk hx] at h
   injection h with h1 h2;unfold iB at h1 h2;by_cases h1x:x.op=1
   ·rw[if_pos h1x] at h1 h2
    cases hq:aL c s.m s.scopes d (kid ks 0) with
    |mk r j=>
     rw[hq] at h1 h2;cases r with
     |error e=>simp only at h1;cases h1
     |ok v=>
      simp only at h1 h2;split at h1
      ·next ht=>
       rw[if_pos ht] at h2;cases hp:aQ c d s (kid ks 1) with
       |mk r2 j2=>
        rw[hp] at h1 h2;simp only at h1 h2;subst h1;have a:=jv c d s _ s' j2 hp;exact⟨a.1,by have:=a.2;omega⟩
      ·next ht=>
       rw[if_neg ht] at h2;split at h1
       ·next hl=>
        rw[if_pos hl] at h2;cases hp:aQ c d s (kid ks 2) with
        |mk r2 j2=>
         rw[hp] at h1 h2;simp only at h1 h2;subst h1;have a:=jv c d s _ s' j2 hp;exact⟨a.1,by have:=a.2;omega⟩
       ·simp only at h1
        cases h1;exact⟨rfl,by omega⟩
   ·rw[if_neg h1x] at h1 h2
    by_cases h2x:x.op=2
    ·rw[if_pos h2x] at h1 h2
     cases hq:aL c s.m s.scopes d (kid ks 0) with
     |mk r j=>
      rw[hq] at h1 h2;cases r with
      |error e=>simp only at h1;cases h1
      |ok v=>
       simp only at h1;split at h1
       ·cases h1
       ·cases h1
        exact⟨rfl,by show s.routes.length<=_;omega⟩
    ·rw[if_neg h2x] at h1 h2
     by_cases h3x:x.op=3
     ·rw[if_pos h3x] at h1 h2
      simp only at h1;split at h1
      ·cases h1
      ·cases h1
       exact⟨rfl,by show s.routes.length<=_;omega⟩
     ·rw[if_neg h3x] at h1 h2
      by_cases h4x:x.op=4
      ·rw[if_pos h4x] at h1 h2
       cases hq:aL c s.m s.scopes d (kid ks 0) with
       |mk r j=>
        rw[hq] at h1 h2;cases r with
        |error e=>simp only at h1;cases h1
        |ok v=>
         simp only at h1;cases h1;exact⟨MP _ _ _,by show s.routes.length<=_;omega⟩
      ·rw[if_neg h4x] at h1 h2
       by_cases h5x:x.op=5
       ·rw[if_pos h5x] at h1 h2
        simp only at h1 h2;cases h1;refine⟨rfl,?_⟩;simp only;split
        ·omega
        ·simp;omega
       ·rw[if_neg h5x] at h1 h2
        simp only at h1;cases h1;exact⟨rfl,by show s.routes.length<=_;omega⟩
def NI(c:Cx)(d:Nat)(s:St)(ks:List Tree):Except Int St×Nat:=
 match bA (aQ c d) {s with scopes:=s.scopes++[fun _=>none]} ks with
 |(.error e,k)=>(.error e,k)
 |(.ok s',k)=>(.ok {s' with scopes:=s'.scopes.take s.scopes.length},k)
theorem EG{c:Cx}{d:Nat}{s:St}{x:Node}{ks:List Tree}(h:x.op=0):aQ c (d+1) s (.mk x ks)=((NI c d s ks).1,(NI c d s ks).2+1):=by
 conv=>lhs;unfold aQ
 rw[if_pos h];unfold NI;cases bA (aQ c d) {s with scopes:=s.scopes++[fun _=>none]} ks with
 |mk r k=>cases r<;>rfl
theorem MQ(f:St->Tree->Except Int St×Nat)(s:St):bA f s []=(.ok s,0):=by unfold bA;rfl
theorem Im{f:St->Tree->Except Int St×Nat}{s:St}(h:s.stopped=true)(t:Tree)(l:List Tree):bA f s (t::l)=bA f s l:=by
 conv=>lhs;unfold bA
 rw[if_pos h]
theorem EH{f:St->Tree->Except Int St×Nat}{s s1:St}{t:Tree}{l:List Tree}{k:Nat}(h:s.stopped=false)(hq:f s t=(.ok s1,k)):bA f s (t::l)=((bA f s1 l).1,k+(bA f s1 l).2):=by
 conv=>lhs;unfold bA
 rw[if_neg (by rw[h];decide),hq]
theorem ze{f:St->Tree->Except Int St×Nat}{s:St}{t:Tree}{l:List Tree}{k:Nat}{e:Int}(h:s.stopped=false)(hq:f s t=(.error e,k)):bA f s (t::l)=(.error e,k):=by
 conv=>lhs;unfold bA
 rw[if_neg (by rw[h];decide),hq]
theorem Io{f:St->Tree->Except Int St×Nat}{s:St}{t:Tree}{l:List Tree}(h:s.stopped=false):(f s t).2<=(bA f s (t::l)).2:=by
 cases hq:f s t with
 |mk r k=>
  cases r with
  |error e=>rw[ze h hq];exact n_
  |ok s1=>rw[EH h hq];simp
section
variable {c:Cx} {d:Nat} {s st:St} {ks l:List Tree} {t:Tree} {K F U u2:Nat} {e:Int}
theorem Vg(jg:bA (aQ c d) {s with scopes:=s.scopes++[fun _=>none]} ks=((bA (aQ c d) st (t::l)).1,K+(bA (aQ c d) st (t::l)).2))(Jf:st.stopped=false)(h:cut F (U+K) (aQ c d st t)=(.error e,u2)):cut F U (NI c d s ks)=(.error e,u2):=by
 have hm:=Io (f:=aQ c d) (t:=t) (l:=l) Jf;cases hr:aQ c d st t with
 |mk r kk=>
 rw[hr] at h hm;simp only at hm;by_cases hq:U+K+kk<=F
 ·rw[bZ hq] at h
  injection h with h1 h2;simp only at h1 h2;subst h1;have h3:NI c d s ks=(.error e,K+kk):=by unfold NI;rw[jg,ze Jf hr]
  rw[h3,bZ (by show U+(K+kk)<=F;omega),<-h2];simp only[Prod.mk.injEq,true_and];omega
 ·rw[eQ hq] at h
  injection h with h1 h2
  have h3:(NI c d s ks).2=K+(bA (aQ c d) st (t::l)).2:=by
   unfold NI;rw[jg];cases(bA (aQ c d) st (t::l)).1<;>rfl
  rw[eQ (by rw[h3];omega),<-h2,<-h1]
theorem Rp{s1:St}{kk:Nat}(jg:bA (aQ c d) {s with scopes:=s.scopes++[fun _=>none]} ks=((bA (aQ c d) st (t::l)).1,K+(bA (aQ c d) st (t::l)).2))(Jf:st.stopped=false)(h:aQ c d st t=(.ok s1,kk)):
 bA (aQ c d) {s with scopes:=s.scopes++[fun _=>none]} ks=((bA (aQ c d) s1 l).1,(K+kk)+(bA (aQ c d) s1 l).2):=by
 rw[jg,EH Jf h];simp only[Prod.mk.injEq,true_and];omega
theorem Rq(jg:bA (aQ c d) {s with scopes:=s.scopes++[fun _=>none]} ks=((bA (aQ c d) st (t::l)).1,K+(bA (aQ c d) st (t::l)).2))(Jf:st.stopped=true):
 bA (aQ c d) {s with scopes:=s.scopes++[fun _=>none]} ks=((bA (aQ c d) st l).1,K+(bA (aQ c d) st l).2):=by
 rw[jg,Im Jf]
theorem Vh(jg:bA (aQ c d) {s with scopes:=s.scopes++[fun _=>none]} ks=((bA (aQ c d) st []).1,K+(bA (aQ c d) st []).2))(h:U+K<=F):cut F U (NI c d s ks)=(.ok {st with scopes:=st.scopes.take s.scopes.length},U+K):=by
 have h1:NI c d s ks=(.ok {st with scopes:=st.scopes.take s.scopes.length},K):=by unfold NI;rw[jg,MQ];rfl
 rw[h1,bZ h]
theorem Rs{α:Type}{r:Except Int α×Nat}{a:α}(h:cut F U r=(.ok a,u2)):∃k,r=(.ok a,k)/\u2=U+k/\U+k<=F:=(iZ (R:=r) h (n_)).2 a rfl
end
end M
theorem YM(A:Option Addr)(m n c:Nat):(Value.slice A m c).ownBlock=(Value.slice A n c).ownBlock:=by
 cases A with
 |none=>rfl
 |some a=>rfl
theorem b9.push{w w':World}{g mb:Nat}{Mu S:Nat->Prop}{c:M.Cx}{st:M.St}{p:PV}{bs:List Nat}{sv':Value}(h:b9 w g Mu S c st p bs)(hg:ax (fun b=>b=g\/p.sv.ownBlock=some b) w w')(ho:aD XJ 131 w' 0 xz sv' (bs++[mb]))(hn:sv'.ownBlock=p.sv.ownBlock\/∃b,sv'.ownBlock=some b/\w.heap.size<=b/\b<w'.heap.size/\b≠mb)(Vi:w.heap.size<=mb/\mb<w'.heap.size)(hm:Hb w' mb (fun _=>none))(hr:st.scopes.length+1<=200):
 b9 w' g (fun b=>Mu b\/New w w' b) S c {st with scopes:=st.scopes++[fun _=>none]} {p with sv:=sv'} (bs++[mb])/\∀b,b<w.heap.size->(Mu b\/New w w' b)->Mu b:=by
 have keep:∀q,q<w.heap.size->q≠g->p.sv.ownBlock≠some q->w'.heap[q]? =w.heap[q]? :=fun q hq h1 h2=>hg.block q hq (fun e=>e.elim h1 h2);have hS:∀q,S q->q<w.heap.size/\q≠g/\p.sv.ownBlock≠some q:=fun q hq=>⟨(h.far q hq).1,h.gne q hq,fun e=>(h.far q hq).2 (h.jF q e).1⟩
 have hk:∀q:Addr,S q.block->w'.cell? q=w.cell? q:=fun q hq=>World.cell?_of_block (keep _ (hS _ hq).1 (hS _ hq).2.1 (hS _ hq).2.2);obtain⟨A,n,e1,e2,e3⟩:=h.msg;obtain⟨A2,n2,f1,f2,f3⟩:=h.tabs;obtain⟨m1,m2,m,m3⟩:=h.mx
 have hne:∀b,sv'.ownBlock=some b->(p.sv.ownBlock=some b\/(w.heap.size<=b/\b<w'.heap.size/\b≠mb)):=fun b hb=>by
  rcases hn with h1|⟨q,h1,h2,h3,h4⟩
  ·exact .inl (h1▸hb)
  ·rw[h1] at hb
   cases hb;exact .inr ⟨h2,h3,h4⟩
 have gl:=h.mu g h.gM
 refine⟨⟨h.d,h.now,h.stop,h.jU,⟨A,n,e1,e2,e3.keep (fun _ h=>h) hk⟩,⟨A2,n2,f1,f2,f3.keep (fun _ h=>h) hk⟩,
  h.routes.stay hg.size (fun q hq hc=>hc.elim (fun x=>x.elim) (fun x=>keep q hq (h.jV q x).2 (fun e=>(h.jF q e).2.2 x))),ho,⟨by rw[List.length_append,List.length_append,h.maps.1];rfl,fun i b s hb hs=> ?_⟩,?_,
  fun b hb=> ?_,
  fun b hb=>⟨.inl (h.jV b hb).1,(h.jV b hb).2⟩,
  fun b hb=>(hne b hb).elim (fun x=>⟨.inl (h.jF b x).1,(h.jF b x).2⟩) (fun x=>⟨.inr ⟨x.1,x.2.1⟩,(by omega),fun e=>by have:=h.mu b (h.jV b e).1;omega⟩),.inl h.gM,
  fun b hb=>⟨l_ (h.far b hb).1 hg.size,fun hm=>hm.elim (h.far b hb).2 (fun x=>by have:=(h.far b hb).1;have:=x.1;omega)⟩,
  fun b hb=>hb.elim (fun x=>l_ (h.mu b x) hg.size) (fun x=>x.2),?_,h.fB,by show(st.scopes++[fun _=>none]).length<=200;rw[List.length_append];exact hr,h.fT,
  ⟨l_ m1 hg.size,fun hm=>hm.elim m2 (fun x=>by have:=x.1;omega),m,(World.cell?_of_block (keep _ m1 (fun e=>m2 (by rw[show(0:Nat)=g from e];exact h.gM)) (fun e=>m2 (h.jF 0 e).1))).trans m3⟩⟩,fun b hb hm=>hm.elim (fun x=>x) (fun x=>by have:=x.1;omega)⟩
 ·rcases Nat.lt_or_ge i bs.length with hi|hi
  ·rw[List.getElem?_append_left hi] at hb
   rw[List.getElem?_append_left (by rw[<-h.maps.1];exact hi)] at hs;exact(h.maps.2 i b s hb hs).keep (keep b (h.mine b (m_ hb)).2.1 (h.mine b (m_ hb)).2.2.1 (h.mine b (m_ hb)).2.2.2.1)
  ·rw[List.getElem?_append_right hi] at hb
   rw[List.getElem?_append_right (by rw[<-h.maps.1];exact hi)] at hs;have Nr:i-bs.length=0:=by have:=(g_ hb).1;simp at this;omega
   rw[<-h.maps.1,Nr] at hs;rw[Nr] at hb;simp at hb hs;subst hb hs;exact hm
 ·refine List.nodup_append.2 ⟨h.apart,by simp,fun a ha b hb e=> ?_⟩
  simp at hb;have:=(h.mine a ha).2.1;omega
 ·rcases List.mem_append.1 hb with hb|hb
  ·exact⟨.inl (h.mine b hb).1,l_ (h.mine b hb).2.1 hg.size,(h.mine b hb).2.2.1,fun e=>(hne b e).elim (h.mine b hb).2.2.2.1 (fun x=>by have:=(h.mine b hb).2.1;omega),(h.mine b hb).2.2.2.2⟩
  ·simp at hb
   subst hb;exact⟨.inr Vi,Vi.2,(by omega),fun e=>(hne b e).elim (fun x=>by have:=h.mu b (h.jF b x).1;omega) (fun x=>x.2.2 rfl),fun e=>by have:=h.mu b (h.jV b e).1;omega⟩
 ·intro s hs
  rcases List.mem_append.1 hs with hs|hs
  ·exact h.vals s hs
  ·simp at hs
   subst hs;intro n v hv;cases hv
theorem b9.pop{w w':World}{g:Nat}{Mu S:Nat->Prop}{c:M.Cx}{st:M.St}{p:PV}{bs:List Nat}{A:Option Addr}{m cap:Nat}(h:b9 w g Mu S c st p bs)(hg:aW g w w')(XM:p.sv= .slice A m cap)(n:Nat)(hn:n<=m):
 b9 w' g Mu S c {st with scopes:=st.scopes.take n} {p with sv:= .slice A n cap} (bs.take n):=by
 have h2:=h.only hg;have hob:∀b,(Value.slice A n cap).ownBlock=some b->p.sv.ownBlock=some b:=fun b hb=>by rw[XM,YM A m n cap];exact hb
 have rB:∀b,b∈bs.take n->b∈bs:=fun b hb=>List.mem_of_mem_take hb
 refine⟨h2.d,h2.now,h2.stop,h2.jU,h2.msg,h2.tabs,h2.routes,?_,⟨by rw[List.length_take,List.length_take,h2.maps.1],fun i b s hb hs=> ?_⟩,h2.apart.sublist (List.take_sublist n bs),fun b hb=>⟨(h2.mine b (rB b hb)).1,(h2.mine b (rB b hb)).2.1,(h2.mine b (rB b hb)).2.2.1,fun e=>(h2.mine b (rB b hb)).2.2.2.1 (hob b e),(h2.mine b (rB b hb)).2.2.2.2⟩,
  h2.jV,fun b hb=>h2.jF b (hob b hb),h2.gM,h2.far,h2.mu,fun s hs=>h2.vals s (List.mem_of_mem_take hs),h2.fB,t_ (by show(st.scopes.take n).length<=st.scopes.length;rw[List.length_take];omega) h2.gN,h2.fT,h2.mx⟩
 ·have:=h2.scopes
  rw[XM] at this;exact this.take n hn
 ·rw[List.getElem?_take] at hb hs
  split at hb
  ·next hi=>
   rw[if_pos hi] at hs;exact h2.maps.2 i b s hb hs
  ·cases hb
theorem MS:(Tryz.prog.info? 131).map (fun i=>(i.zero,i.size,i.bytes))=some (some (.map none),1,8):=by kernel_rfl
theorem Vj{q:Nat}{v:Value}(h:ar w g 64 (p.cells F q))(hv:p.sv=v)(i:Nat):w.cell? ⟨g,i,none⟩=#[.int .u8 (p.d.f.toNat:Int),.int .u8 (p.d.c.toNat:Int),.int .u8 (p.d.r.toNat:Int),.int .u8 (p.d.e.toNat:Int),.int .u8 (p.d.s.toNat:Int),p.v,p.tv,.string p.now,.int .i64 (F:Nat),.int .i64 (q:Nat),p.rv,.bool p.stop,v][i]? :=by
 subst hv;exact h.cell i
theorem YN{tn:List ByteArray}{x:M.Node}{ks:List M.Tree}(hx:x.op=0)(h:M.bh dests tn (d+1) env (.mk x ks)= .ok cS)(i:Nat)(t:M.Tree)(ht:ks[i]? =some t):∃e e',M.bh dests tn d e t= .ok e':=by
 rw[JL hx] at h;cases hq:M.gH (M.bh dests tn d) env ks with
 |error e=>rw[hq] at h;cases h
 |ok e1=>exact rI hq i t ht
theorem YO(d:Nat)(hst:U4 d):MH (d+1):=by
 intro t g Mu S N c st p bs F u dests env cS A cap w hT bf cj hp hgb hF hu hN hsc hro aI hl;cases t with
 |mk x ks=>
 have hm:=aI.le;obtain⟨dM,fj,fk⟩:=cU hT;have hop:=yU dM;have HST:=q_ (M.EG (c:=c) (d:=d) (s:=st) (x:=x) (ks:=ks) hop)
 have Yf:=q_ (show∀(j:Nat) (t:M.Tree),ks[j]? =some t->M.jP d 2 t=true/\M.mh t/\∃e e',M.bh dests (aG c.tables) d e t= .ok e' from fun j t hj=>
  ⟨by have:=cF (i:=j) (t:=t) hT hj;rwa [Em hop] at this,M.cw (k:=j) (by unfold M.mh at bf;exact bf.2) hj,YN hop cj j t hj⟩)
 have Bf:=q_ bf;have nk:=q_ aI;have HL:=q_ hl;have HP:=q_ hp;have HG:=q_ (show g<w.heap.size from hgb.lt);have Mt:=q_ hp.gM;have Ma:=q_ hgb;have HN:=q_ hN;have HSL:=q_ hst;have Il:=q_ (show F<=2000/\u<=F/\st.scopes.length+(d+1)<=100/\st.routes.length<=u from⟨hF,hu,hsc,hro⟩)
 have UD:ks.length<=1048576:=by
  have h1:=M.dx ks;have h2:(M.flat (.mk x ks)).length=(M.bB ks).length+1:=by unfold M.flat;rfl
  omega
 generalize Jo:(M.flat (.mk x ks)).length=m at*;clear hl hN hgb hp bf aI hT dM fj fk hop hF hu hsc hro hst cj;go_enter Tryz.func20,Tryz.ntmps20;go_wp2_with fail;refine(vr w g p F u Il.o.1 Il.o.2.1 Ma.o).mono ?_
 rintro e w2 (⟨hlt,rfl,h1,h2⟩|⟨SU,rfl,h1⟩);rotate_left
 ·have HE:=q_ (show M.cut F u (M.aQ c (d+1) st (.mk x ks))=(.error 83,u) by rw[HST.o];subst SU;exact M.DD)
  have G2:=q_ (Ma.o.below h1 HG.o);have T2:=q_ (show ax Mu w w2 from ax.of h1);clear SU h1;unfold dt;go_wp2;exact⟨rfl,cD.err HE.o T2.o rfl G2.o⟩
 have LT:=q_ hlt;have MO:=q_ (show M.cut F u (M.aQ c (d+1) st (.mk x ks))=M.cut F (u+1) (M.NI c d st ks) by rw[HST.o];exact M.pR hlt);have T2:=q_ h1;have rG:=q_ h2;have YP:=q_ (HP.o.only h1);clear h1 h2 hlt;obtain⟨w3,hw3⟩:∃w3,w3=(w2.alloc (.map #[] 0)).alloc (.cells #[.map (some w2.heap.size)] 131):=⟨_,rfl⟩
 have s3:(w2.alloc (.map #[] 0)).heap.size=w2.heap.size+1:=by simp
 have Vk:=q_ (show Hb w3 w2.heap.size (fun _=>none) from hw3▸(cY.made w2 Tryz.prog 9 Value.string).below ((Below.refl _ _).alloc (n_) _) (by rw[s3];omega));have Mc:=q_ (show ar w3 (w2.heap.size+1) 131 #[.map (some w2.heap.size)] from hw3▸s3▸ar.new _ _ _);have B3:=q_ (show Below w2.heap.size w2 w3 from hw3▸((Below.refl _ w2).alloc (n_) _).alloc (by omega) _);have Wv:=q_ (rG.o.below B3.o rG.o.lt);have OW3:=q_ (YP.o.scopes.below B3.o);have S3:=q_ (show w3.heap.size=w2.heap.size+2 by rw[hw3];simp);have Al:= @run_makeMap Tryz.prog;have zg:=rG.o.cell;have jcp:=hw3.symm;clear hw3;obtain⟨itM,jbi,hzM,hsM,hbM⟩:=info_parts MS
 go_wp2_with (first
  |(refine ay rfl (.tmp 14) (.tmp 16) _ rfl itM _ 8 Tryz.underlying62 jbi hzM hsM hbM rfl rfl OW3.o ⟨w2.heap.size+1,0,none⟩ 1 1 [w2.heap.size] rfl rfl (fw Mc.o ⟨rfl,trivial⟩) (by have:=YP.o.maps.1;have:=Il.o.2.2.1;omega) (by omega) (by omega) ?_
    intro o4 w4 bC _ hg4 ZH;have OW4:=q_ bC;have HO4:=q_ (show o4.ownBlock=p.sv.ownBlock\/o4.ownBlock=some w3.heap.size from ZH);have Z':=q_ (show w3.grownBy w4 p.sv.ownBlock from hg4);have xJ:=q_ (Wv.o.grown hg4 (fun e=>(YP.o.jF g e.symm).2.1 rfl));have E4:=q_ bC.shape;clear bC ZH hg4 zg jcp jbi hzM hsM hbM)
  |(refine bH rfl 62 (.tmp 19) (.tmp 17) rfl g 12 o4 _ (by rfl) (by rfl) (xJ.o.cell 12) (xJ.o.frozen 12) (by kernel_rfl) (by obtain⟨A4,c4,e4⟩:=E4.o;rw[e4];rfl) ?_
    intro w5 hw5;have g5:w4.grownBy w5 (some g):=hw5▸aV w4 g 12 _;have oT:=q_ (show ar w5 g 64 (PV.cells {p with sv:=o4} F (u+1)) from hw5▸xJ.o.fK 12 _)
    have hne:o4.ownBlock≠some g:=fun e=>by
     rcases HO4.o with h1|h1
     ·exact(YP.o.jF g (h1▸e)).2.1 rfl
     ·rw[h1] at e;cases e;have:=Wv.o.lt;omega
    have SK:=OW4.o.aK g5 hne (fun h=>h);have T25:=q_ (show ax (fun b=>b=g\/p.sv.ownBlock=some b) w2 w5 from((ax.of (Mu:=fun b=>b=g\/p.sv.ownBlock=some b) B3.o).Ha (fun b hb _=> .inr hb) Z'.o).grown (fun _=> .inl rfl) g5);have WO:=((Vk.o.grown Z'.o (fun e=>by have:=(YP.o.scopes.aJ e.symm).2;omega)).grown g5 (fun e=>by injection e with e;have:=rG.o.lt;omega))
    obtain⟨Rt,hM5,jbj⟩:∃Rt:Nat->Prop,(∀b,Rt b<->(Mu b\/New w2 w5 b))/\b9 w5 g Rt S c {st with scopes:=st.scopes++[fun _=>none]} {p with sv:=o4} (bs++[w2.heap.size]):=
     ⟨_,fun _=>Iff.rfl,(YP.o.push T25.o SK (HO4.o.imp (fun h=>h) (fun h=>⟨_,h,by have:=S3.o;omega,by have:=(OW4.o.aJ h).2;have:=g5.size;omega,by have:=S3.o;omega⟩)) ⟨n_,by have:=WO.lt;omega⟩ WO (by have:=Il.o.2.2.1;omega)).1⟩
    have HM5:=q_ hM5;have PI5:=q_ jbj;have T5:=q_ (show ax Mu w w5 from(T2.o.mu Mt.o).trans T25.o (fun b hb h=>h.elim (fun e=>e▸Mt.o) (fun e=>(YP.o.jF b e).1)));clear hw5 g5 hne SK WO hM5 jbj Vk Mc Wv OW3 xJ OW4 HO4 Z' E4)
  |fail)
 have SN5:=q_ (show∀b,N b->b<w5.heap.size/\¬Rt b from fun b h=>⟨l_ (HN.o b h).1 T5.o.size,fun hm=>((HM5.o b).1 hm).elim (HN.o b h).2 (fun x=>by have:=(HN.o b h).1;have:=x.1;have:=T2.o.size;omega)⟩);refine(fh x ks Bf.o A m cap N w5 (fun b h=>(SN5.o b h).1) nk.o (T5.o.nu HL.o HN.o)).mono ?_
 rintro e w6 ⟨A1,c1,A2,c2,rfl,kY,hk2,dF,hl2,dw⟩;have P1:=q_ dF;have fS:=q_ kY;have T6:=q_ (show ax Mu w w6 from T5.o.on dw);have PI6:=q_ (PI5.o.below dw);have Yu:=q_ (oT.o.below dw oT.o.lt);have SW:=q_ (show∀b,(N b\/New w5 w6 b)->b<w6.heap.size/\¬Rt b from fun b h=>h.elim (fun h=>⟨l_ (SN5.o b h).1 dw.size,(SN5.o b h).2⟩) (fun h=>⟨h.2,fun hm=>by have:=PI5.o.mu b hm;have:=h.1;omega⟩));have HM:=q_ (show∀b,b<w.heap.size->Rt b->Mu b from fun b hb hm=>((HM5.o b).1 hm).elim (fun h=>h) (fun x=>by have:=x.1;have:=T2.o.size;omega));clear kY hk2 dF hl2 dw PI5 oT SN5 HM5 T5;have dC:ks.length<=c1:=by simpa using fS.o.2.1
 go_wp2_with fail
 go_loopw [27] (fun y wr=>∃(k K:Nat) (FM:M.St) (p1:PV) (bs1:List Nat) (YQ S1:Nat->Prop),k<=ks.length/\y= .int .i64 k/\u+1+K<=F/\ax Rt w6 wr/\Q_ (∀b,b<w6.heap.size->YQ b->Rt b)/\b9 wr g YQ S1 c FM p1 bs1/\ar wr g 64 (p1.cells F (u+1+K))/\FM.scopes.length=st.scopes.length+1/\FM.routes.length<=u+1+K/\
  M.bA (M.aQ c d) {st with scopes:=st.scopes++[fun _=>none]} ks=((M.bA (M.aQ c d) FM (ks.drop k)).1,K+(M.bA (M.aQ c d) FM (ks.drop k)).2)) (fun y _=>ks.length-(intOf y).toNat)
 case atStart=>exact⟨0,0,_,_,_,Rt,S,by omega,rfl,LT.o,ax.refl _ _,q_ (fun _ _ h=>h),PI6.o,Yu.o,by simp,by have:=Il.o.2.2.2;show st.routes.length<=_;omega,by rw[List.drop_zero,Nat.zero_add]⟩
 case round=>
  obtain⟨k,K,FM,p1,bs1,YQ,S1,hk,rfl,ZX,hT,hM1,hpi,hgb,Zz,hrl,jg⟩:=hrel;have TR:=q_ hT;have M1:=q_ hM1.o;have Wj:=q_ hpi;have Nw:=q_ hgb;have Lx:=q_ (And.intro Zz hrl);have LAW:=q_ jg;have PLR:=q_ (hT.nu P1.o SW.o);have SWR:=q_ (show∀b,(N b\/New w5 w6 b)->b<wr.heap.size/\¬YQ b from fun b h=>⟨l_ (SW.o b h).1 hT.size,fun hm=>(SW.o b h).2 (hM1.o b (SW.o b h).1 hm)⟩);have zs:wr.cell? ⟨g,11,none⟩=some (.bool FM.stopped):=(hgb.cell 11).trans (by rw[<-hpi.stop];rfl);clear hT hM1 hpi hgb Zz hrl jg;by_cases hlt:k<ks.length
  ·have q1:decide ((k:Int)<(ks.length:Int))=true:=by simp;omega
   obtain⟨t,dY⟩:∃t,ks[k]? =some t:=⟨_,e_ hlt⟩
   obtain⟨b1,y1,u1,xH,ib,fI,hr1,jf⟩:=PLR.o.in1 (k:=k) rfl (by omega);subst xH;simp[dY] at fI;subst fI;obtain⟨At,ct,rfl,fE,di⟩:=aU.av (E:=ENode) hr1;obtain⟨XQ,Cq,en1,en2,Qv⟩:=Yf.o k t dY;have CALL:=q_ (HSL.o t g YQ S1 (fun b=>N b\/New w5 w6 b) c FM p1 bs1 F (u+1+K) dests en1 en2 At ct wr XQ Cq Qv Wj.o Nw.o Il.o.1 ZX SWR.o (by have:=Lx.o.1;omega) (by have:=Lx.o.1;have:=Il.o.2.2.1;omega) Lx.o.2 fE di)
   have Mj:=q_ (show M.bA (M.aQ c d) {st with scopes:=st.scopes++[fun _=>none]} ks=((M.bA (M.aQ c d) FM (t::ks.drop (k+1))).1,K+(M.bA (M.aQ c d) FM (t::ks.drop (k+1))).2) by
    obtain⟨h1,rfl⟩:=g_ dY;rw[LAW.o,List.drop_eq_getElem_cons h1])
   clear hr1 di XQ Cq Qv dY fE;cases hst:FM.stopped with
   |true=>
    rw[hst] at zs;have cu:=q_ (M.Rq Mj.o hst);clear hst;go_wp2;go_roundw
    case rel=>exact⟨k+1,K,FM,p1,bs1,YQ,S1,hlt,by go_num,ZX,TR.o,q_ M1.o,Wj.o,Nw.o,Lx.o.1,Lx.o.2,cu.o⟩
    case measure=>simp[intOf];omega
   |false=>
    rw[hst] at zs;have NS:=q_ hst;clear hst;go_wp2_with fail;refine CALL.o.mono ?_;clear CALL;rintro e w7 he;cases kG:M.cut F (u+1+K) (M.aQ c d FM t) with
    |mk res u2=>
    rw[kG] at he;cases res with
    |error er=>
     have gR:=q_ (M.Vg Mj.o NS.o kG);obtain⟨h1,rfl,p2,h2⟩:=he.kJ;have T7:=q_ (show ax Mu w w7 from(T6.o.trans TR.o HM.o).trans h1 (fun b hb h=>HM.o b hb (M1.o b (l_ hb T6.o.size) h)));have SX:=q_ h2;clear he kG h1 h2;unfold dt;go_wp2;exact⟨rfl,cD.err (MO.o.trans gR.o) T7.o rfl SX.o⟩
    |ok st2=>
     obtain⟨kk,iR,nv,hle⟩:=M.Rs kG;have cu:=q_ (M.Rp Mj.o NS.o iR);have KP:=q_ (M.jv c d FM t st2 kk iR);obtain⟨h1,rfl,Mu2,S2,p2,bs2,h2,h3,h4⟩:=he.oV;have T7:=q_ (show ax Rt w6 w7 from TR.o.trans h1 M1.o);have PI7:=q_ h2;have SX:=q_ (show ar w7 g 64 (p2.cells F (u+1+(K+kk))) by rw[<-Nat.add_assoc,<-nv];exact h3);have M7:=q_ (show∀b,b<w6.heap.size->Mu2 b->Rt b from fun b hb h=>M1.o b hb (h4 b (l_ hb TR.o.size) h));have HLE:=q_ hle;clear he kG h1 h2 h3 h4 iR nv hle;go_wp2;go_roundw
     case rel=>exact⟨k+1,K+kk,st2,p2,bs2,Mu2,S2,hlt,by go_num,by have:=HLE.o;omega,T7.o,q_ M7.o,PI7.o,SX.o,KP.o.1.trans Lx.o.1,by have:=KP.o.2;have:=Lx.o.2;omega,cu.o⟩
     case measure=>simp[intOf];omega
  ·obtain rfl:k=ks.length:=by omega
   have q1:decide ((ks.length:Int)<(ks.length:Int))=false:=by simp
   have vO:=q_ (show M.cut F u (M.aQ c (d+1) st (.mk x ks))=(.ok {FM with scopes:=FM.scopes.take st.scopes.length},u+1+K) from MO.o.trans (M.Vh (by rw[LAW.o,List.drop_length]) ZX));have hbl:bs1.length=st.scopes.length+1:=Wj.o.maps.1.trans Lx.o.1
   obtain⟨b0,xp,esv,jcQ,jcR⟩:∃b0 xp,p1.sv= .slice (some ⟨b0,0,none⟩) (st.scopes.length+1) xp/\st.scopes.length+1<=xp/\xp<=maxLen:=by
    rcases Wj.o.scopes.form with⟨_,e⟩|⟨b0,xp,e,_,_,h1,h2⟩
    ·rw[e] at hbl;simp at hbl
    ·rw[hbl] at e h1;exact⟨b0,xp,e,h1,h2⟩
   have ESV:=q_ esv;clear esv zs hbl;have hnl2:st.scopes.length<=100:=by have:=Il.o.2.2.1;omega
   generalize ZC:st.scopes.length=n at*;have HSN:=q_ ZC;clear ZC;have hwr:IntKind.i64.wrap (n:Int)=(n:Int):=IntWalk.i64_in _ ⟨by omega,by omega⟩;have gi:((0:Int)<=(n:Int))=True:=eq_true (by omega);have gj:((n:Int)<=(xp:Int))=True:=eq_true (by omega);go_wp2_with fail;refine ak (KP:=fun _ _=>False) 14 [] (fL wr) (by kernel_rfl) (by kernel_rfl) (fL.start wr) (fun ch a2 w5 hd hk=>hk.elim) ?_
   iterate 14
    apply ae rfl
    ·intro L vs wx hI hR hL K hK
     have c0:=fun i=>(Vj (Nw.o.below hI Nw.o.lt) ESV.o i)
     go_simp;exact hK _ hI
    intro KK af;go_simp;refine af _ ?_;clear af KK
   refine aw ?_;intro vs w8 hI;have Wx:=q_ (Nw.o.below hI Nw.o.lt);have T8:=q_ (show aW g wr w8 from ax.of hI);clear hI;intro KK af;have kg:=fun a w h=>af .normal a w h;simp only[List.drop_succ_cons];refine bH rfl 62 (.tmp 53) (.tmp 51) rfl g 12 (.slice (some ⟨b0,0,none⟩) n xp) _ (by rfl) (by rfl) (Wx.o.cell 12) (Wx.o.frozen 12) (by kernel_rfl) (by rfl) ?_;intro w9 YE;have g9:w8.grownBy w9 (some g):=YE▸aV w8 g 12 _;have Wl:=q_ (show ar w9 g 64 (PV.cells {p1 with sv:= .slice (some ⟨b0,0,none⟩) n xp} F (u+1+K)) from YE▸Wx.o.fK 12 _);have T9:=T8.o.grown (fun _=>rfl) g9;have PI9:=q_ (Wj.o.pop T9 ESV.o n (Nat.le_succ n));have TF:=q_ (show ax Mu w w9 from(T6.o.trans TR.o HM.o).trans T9 (fun b hb e=>by subst e;exact Mt.o));have MF:=q_ (show∀b,b<w.heap.size->YQ b->Mu b from fun b hb h=>HM.o b hb (M1.o b (l_ hb T6.o.size) h));clear YE g9 T9;go_wp2
   (first|(go_end0)|(refine kg _ _ ?_;go_end0));exact cD.ok vO.o TF.o rfl PI9.o Wl.o MF.o
theorem BI:∀d,MH d/\U4 d
 |0=>⟨Vf,Ve⟩
 |d+1=>⟨YO d (BI d).2,YK d (BI d).1⟩
namespace M
theorem zh{s:ByteArray}{e:Int}(h:short s= .error e):e≠0:=by
 unfold short at h;split at h
 ·cases h;decide
 ·cases h
theorem mn{s a b:ByteArray}{e:Int}(h:replace s a b= .error e):e≠0:=by
 unfold replace at h;split at h
 ·split at h
  ·cases h;decide
  ·cases h
 ·split at h
  ·cases h
  ·cases h;decide
theorem Bc{s:ByteArray}{n:Int}{b:ByteArray}{e:Int}(h:pad s n b= .error e):e≠0:=by
 unfold pad at h;split at h
 ·split at h
  ·cases h;decide
  ·cases h
 ·split at h
  ·cases h;decide
  ·cases h
theorem EJ{r:Except Int ByteArray}{e:Int}(h:told r= .error e):r= .error e:=by
 cases r with
 |ok s=>cases h
 |error k=>cases h;rfl
theorem MT{a b:Val}{e:Int}(h:plusV a b= .error e):e≠0:=by
 unfold plusV at h;split at h
 ·exact zh h
 ·split at h
  ·cases h;decide
  ·cases h
theorem Ru{op:Int}{a b:Val}{e:Int}(h:gY op a b= .error e):e≠0:=by
 unfold gY at h
 iterate 6 (split at h;cases h)
 exact MT h
theorem MU{c:Cx}{m:dQ}{name:ByteArray}{first:Node}{a:List Val}{e:Int}(h:nV c m name first a= .error e):e≠0:=by
 unfold nV at h;by_cases c:bJ name N4=true
 ·rw[if_pos c] at h;cases h
 rw[if_neg c] at h;clear c;by_cases c:bJ name uM=true
 ·rw[if_pos c] at h;cases h
 rw[if_neg c] at h;clear c;by_cases c:bJ name uN=true
 ·rw[if_pos c] at h;cases h
 rw[if_neg c] at h;clear c;by_cases c:bJ name CP=true
 ·rw[if_pos c] at h;cases h
 rw[if_neg c] at h;clear c;by_cases c:bJ name N7=true
 ·rw[if_pos c] at h;cases h
 rw[if_neg c] at h;clear c;by_cases c:bJ name CQ=true
 ·rw[if_pos c] at h;cases h
 rw[if_neg c] at h;clear c;by_cases c:bJ name lS=true
 ·rw[if_pos c] at h;exact mn (EJ h)
 rw[if_neg c] at h;clear c;by_cases c:bJ name Oa=true
 ·rw[if_pos c] at h;exact Bc (EJ h)
 rw[if_neg c] at h;clear c;by_cases c:bJ name pG=true
 ·rw[if_pos c] at h
  by_cases c2:P.ew (L (aY a 0).text)=true
  ·rw[if_pos c2] at h;cases h
  ·rw[if_neg c2] at h;cases h;decide
 rw[if_neg c] at h;clear c;by_cases c:bJ name CR=true
 ·rw[if_pos c] at h;cases h
 rw[if_neg c] at h;clear c;by_cases c:bJ name nh=true
 ·rw[if_pos c] at h;cases h
 rw[if_neg c] at h;clear c;by_cases c:bJ name qU=true
 ·rw[if_pos c] at h;cases h
 rw[if_neg c] at h;clear c;by_cases c:bJ name ni=true
 ·rw[if_pos c] at h;cases h
 rw[if_neg c] at h;clear c;by_cases c:bJ name Kl=true
 ·rw[if_pos c] at h;cases h
 rw[if_neg c] at h;clear c;cases h
theorem zi{f:Tree->Except Int Val×Nat}(hf:∀t e k,f t=(.error e,k)->e≠0):∀(l:List Tree) (e:Int) (k:Nat),cz f l=(.error e,k)->e≠0
 |[],e,k,h=>by unfold cz at h;cases h
 |t::l,e,k,h=>by
  unfold cz at h;cases hq:f t with
  |mk r j=>
  rw[hq] at h;cases r with
  |error e1=>simp only at h;injection h with h1 h2;cases h1;exact hf t _ j hq
  |ok v=>
   simp only at h;cases hl:cz f l with
   |mk r2 j2=>
   rw[hl] at h;cases r2 with
   |error e1=>simp only at h;injection h with h1 h2;cases h1;exact zi hf l _ j2 hl
   |ok vs=>simp only at h;injection h with h1 h2;cases h1
theorem iJ(c:Cx)(m:dQ)(scopes:List Scope):∀(d:Nat) (t:Tree) (e:Int) (k:Nat),aL c m scopes d t=(.error e,k)->e≠0
 |0,t,e,k,h=>by unfold aL at h;injection h with h1 h2;cases h1;decide
 |d+1,.mk x ks,e,k,h=>by
  unfold aL at h
  iterate 3 (split at h;·(injection h with h1 h2;cases h1))
  split at h
  ·injection h with h1 h2;exact zh h1
  split at h
  ·injection h with h1 h2;cases h1
  split at h
  ·cases hv:cz (aL c m scopes d) (if fO x.text=true then ks.tail else ks) with
   |mk r j=>
   rw[hv] at h;cases r with
   |error e1=>simp only at h;injection h with h1 h2;cases h1;exact zi (iJ c m scopes d) _ _ j hv
   |ok vs=>simp only at h;injection h with h1 h2;exact MU h1
  ·cases h0:aL c m scopes d (kid ks 0) with
   |mk r j=>
   rw[h0] at h;cases r with
   |error e1=>simp only at h;injection h with h1 h2;cases h1;exact iJ c m scopes d _ _ j h0
   |ok a=>
    simp only at h;split at h
    ·injection h with h1 h2;cases h1
    split at h
    ·injection h with h1 h2;cases h1
    cases h3:aL c m scopes d (kid ks 1) with
    |mk r2 j2=>
    rw[h3] at h;cases r2 with
    |error e1=>simp only at h;injection h with h1 h2;cases h1;exact iJ c m scopes d _ _ j2 h3
    |ok b=>
     simp only at h;injection h with h1 h2;split at h1
     ·cases h1
     ·exact Ru h1
theorem pc{f:St->Tree->Except Int St×Nat}(hf:∀s t e k,f s t=(.error e,k)->e≠0):∀(l:List Tree) (s:St) (e:Int) (k:Nat),bA f s l=(.error e,k)->e≠0
 |[],s,e,k,h=>by unfold bA at h;cases h
 |t::l,s,e,k,h=>by
  unfold bA at h;split at h
  ·exact pc hf l s e k h
  ·cases hq:f s t with
   |mk r j=>
   rw[hq] at h;cases r with
   |error e1=>simp only at h;injection h with h1 h2;cases h1;exact hf s t _ j hq
   |ok s1=>
    simp only at h;cases hl:bA f s1 l with
    |mk r2 j2=>
    rw[hl] at h;simp only at h;injection h with h1 h2;subst h1;exact pc hf l s1 e j2 hl
theorem kP(c:Cx):∀(d:Nat) (s:St) (t:Tree) (e:Int) (k:Nat),aQ c d s t=(.error e,k)->e≠0
 |0,s,t,e,k,h=>by unfold aQ at h;injection h with h1 h2;cases h1;decide
 |d+1,s,.mk x ks,e,k,h=>by
  unfold aQ at h;split at h
  ·cases hq:bA (aQ c d) {s with scopes:=s.scopes++[fun _=>none]} ks with
   |mk r j=>
   rw[hq] at h;cases r with
   |error e1=>simp only at h;injection h with h1 h2;cases h1;exact pc (kP c d) _ _ _ j hq
   |ok s1=>simp only at h;injection h with h1 h2;cases h1
  split at h
  ·cases h0:aL c s.m s.scopes d (kid ks 0) with
   |mk r j=>
   rw[h0] at h;cases r with
   |error e1=>simp only at h;injection h with h1 h2;cases h1;exact iJ c _ _ d _ _ j h0
   |ok v=>
    simp only at h;split at h
    ·cases hp:aQ c d s (kid ks 1) with
     |mk r2 j2=>rw[hp] at h;simp only at h;injection h with h1 h2;subst h1;exact kP c d _ _ e j2 hp
    split at h
    ·cases hp:aQ c d s (kid ks 2) with
     |mk r2 j2=>rw[hp] at h;simp only at h;injection h with h1 h2;subst h1;exact kP c d _ _ e j2 hp
    ·injection h with h1 h2;cases h1
  split at h
  ·cases h0:aL c s.m s.scopes d (kid ks 0) with
   |mk r j=>
   rw[h0] at h;cases r with
   |error e1=>simp only at h;injection h with h1 h2;cases h1;exact iJ c _ _ d _ _ j h0
   |ok v=>
    simp only at h;injection h with h1 h2;split at h1
    ·next hne=>cases h1;exact hne
    ·cases h1
  split at h
  ·injection h with h1 h2
   split at h1
   ·next hne=>cases h1;exact hne
   ·cases h1
  split at h
  ·cases h0:aL c s.m s.scopes d (kid ks 0) with
   |mk r j=>
   rw[h0] at h;cases r with
   |error e1=>simp only at h;injection h with h1 h2;cases h1;exact iJ c _ _ d _ _ j h0
   |ok v=>simp only at h;injection h with h1 h2;cases h1
  split at h
  ·injection h with h1 h2;cases h1
  ·injection h with h1 h2;cases h1
theorem wK{c:Cx}{d:Nat}{s:St}{t:Tree}{F u k:Nat}{e:Int}(h:cut F u (aQ c d s t)=(.error e,k)):e≠0:=by
 by_cases hq:u+(aQ c d s t).2<=F
 ·rw[bZ hq] at h
  injection h with h1 h2;exact kP c d s t e (aQ c d s t).2 (by rw[<-h1])
 ·rw[eQ hq] at h
  injection h with h1 h2;cases h1;decide
end M
theorem EL(a:Addr)(w:World):CallsD Tryz.prog 74 #[.pointer (some a)] .returning w fun e u' w'=>e= .returned (.tuple #[])/\u'= .returning/\w'=w:=by
 refine callsD_of_wpS Tryz.func74 rfl fun qa cs hu=> ?_;apply wpS_seq;apply wpS_region;simp[wpOpsS,go_sem,recoverD,hu,Tryz.ntmps74,Exit.thenS];refine wpS_of_wp ?_;refine p9 (t':=#[.pointer (some a),.nilIface,undef,undef,.nilIface,undef,undef,undef,undef,undef,undef,undef,undef,undef,undef,undef]) (by kernel_rfl) ?_;go_wp2;cases qa;simp_all [bodyPostS,results,Tryz.results74]
theorem Rv(k:Int)(W:World):(Instr.typeAssert (.iface 36 (.int .i64 k)) 20 36 true).run Tryz.prog W= .ok (.tuple #[.int .i64 k,.bool true]) W:=by kernel_rfl
theorem BJ(a:Nat)(k:Int)(x:Value)(w:World)(ha:ar w a 36 #[x]):
 CallsD Tryz.prog 74 #[.pointer (some ⟨a,0,none⟩)] (.panicking [{v:= .iface 36 (.int .i64 k),recovered:=false}]) w fun e u' w'=>
  e= .returned (.tuple #[])/\u'= .panicking [{v:= .iface 36 (.int .i64 k),recovered:=true}]/\ax (fun q=>q=a) w w'/\ar w' a 36 #[.int .i64 k]:=by
 refine callsD_of_wpS Tryz.func74 rfl fun qa cs hu=> ?_;have HA:=q_ ha;clear ha;apply wpS_seq;apply wpS_region;simp[wpOpsS,go_sem,recoverD,hu,Tryz.ntmps74,Exit.thenS];refine wpS_of_wp ?_;refine p9 (t':=#[.pointer (some ⟨a,0,none⟩),.iface 36 (.int .i64 k),undef,undef,.iface 36 (.int .i64 k),undef,undef,undef,undef,undef,undef,undef,undef,undef,undef,undef]) (by kernel_rfl) ?_;have hta:=Rv k;have za:=HA.o.cell;have fa:=HA.o.frozen;have T5:=q_ (show ax (fun q=>q=a) w (w.setCell ⟨a,0,none⟩ (.int .i64 k)) from(ax.refl _ w).grown (fun _=>rfl) (aV w a 0 _));have A5:=q_ (HA.o.one_set (.int .i64 k));clear hu;go_wp2_with fail;simp[bodyPostS,results,Tryz.results74];exact⟨T5.o,A5.o⟩
theorem EM(a b:Addr)(w:World)(Mu:Nat->Prop)(Q:Int->World->Prop)(Ys:∀q,Mu q->q<w.heap.size)(Ug:∀w1,Below w.heap.size w w1->Calls Tryz.prog 19 #[.pointer (some a),.pointer (some b)] w1 fun e w'=>ax Mu w1 w'/\∃k,Q k w'/\((k=0/\e= .returned (.tuple #[]))\/(k≠0/\e=dt k))):
 Calls Tryz.prog 18 #[.func (.func 19) #[] #[.pointer (some a),.pointer (some b)]] w fun e w'=>∃k w2,e= .returned (.int .i64 k)/\Q k w2/\ax Mu w w2/\ax (fun q=>q=w.heap.size) w2 w'/\(k=0->Below w2.heap.size w2 w'):=by
 have Tu:∀(fn:Fn) (first cap:Array Value) (w:World),(Instr.makeFunc fn first cap).run Tryz.prog w= .ok (.func fn first cap) w:=fun _ _ _ _=>rfl;have Ws:=q_ Ug;clear Ug;have A1:=q_ (ar.new w 36 #[.int .i64 0]);have s0:(w.alloc (.cells #[.int .i64 0] 36)).heap.size=w.heap.size+1:=by simp
 have B1:=q_ ((Below.refl _ w).alloc (n_) (.cells #[.int .i64 0] 36));go_enter_defers Tryz.func18,Tryz.ntmps18;go_wp2_with fail;generalize w.alloc (.cells #[.int .i64 0] 36)=w1 at A1 s0 B1⊢;refine(Ws.o _ B1.o).mono ?_
 rintro e w2 ⟨ht,k,hq,⟨rfl,rfl⟩|⟨hk,rfl⟩⟩
 ·have A2:=q_ (ht.blk A1.o (fun h=>by have:=Ys _ h;omega))
  have za:=A2.o.cell;have fa:=A2.o.frozen;have T2:=q_ ((ax.of (Mu:=Mu) B1.o).trans ht (fun _ _ h=>h));have HQ:=q_ hq;clear ht s0 hq;go_wp2;refine leaves_cons (f:=74) (args:=#[.pointer (some ⟨w.heap.size,0,none⟩)]) (by simp) (by simp[go_sem]) ?_;refine(EL _ _).mono ?_
  rintro e u' w3 ⟨rfl,rfl,h3⟩;have A3:=A2.o.one_set (.int .i64 0);have T3:=q_ (show ax (fun q=>q=w.heap.size) w2 (w2.setCell ⟨w.heap.size,0,none⟩ (.int .i64 0)) from(ax.refl _ w2).grown (fun _=>rfl) (aV w2 w.heap.size 0 (.int .i64 0)));rw[<-h3] at A3 T3;have z1:w3.cell? ⟨w.heap.size,0,none⟩=some (.int .i64 0):=A3.cell 0;clear h3 za fa;simp[Leaves,settle,results,Tryz.results18,go_sem,z1]
  exact⟨w2,HQ.o,T2.o,T3.o,⟨T3.o.os,T3.o.tape,T3.o.output,T3.o.size,fun b hb=>by
   by_cases h:b=w.heap.size
   ·subst h;exact A3.trans A2.o.symm
   ·exact T3.o.block b hb h⟩⟩
 ·have A2:=q_ (ht.blk A1.o (fun h=>by have:=Ys _ h;omega))
  have T2:=q_ ((ax.of (Mu:=Mu) B1.o).trans ht (fun _ _ h=>h));have HQ:=q_ hq;have HK:=q_ hk;clear ht s0 hq hk;unfold dt;go_wp2;refine leaves_cons (f:=74) (args:=#[.pointer (some ⟨w.heap.size,0,none⟩)]) (by simp) (by simp[go_sem]) ?_;refine(BJ _ k _ _ A2.o).mono ?_
  rintro e u' w3 ⟨rfl,rfl,Qv,ha3⟩;have T3:=q_ Qv;have z1:w3.cell? ⟨w.heap.size,0,none⟩=some (.int .i64 k):=ha3.cell 0;clear Qv ha3;simp[Leaves,settle,results,Tryz.results18,go_sem,z1];exact⟨w2,HQ.o,T2.o,T3.o,fun h=>absurd h HK.o⟩
namespace M
def bV(n:List Node):List ByteArray:=(n.filter fun x=>decide (x.op=5)).map Node.text
theorem xO{n:List Node}{k:Nat}{x:Node}(h:n[k]? =some x):bV (n.take (k+1))=bV (n.take k)++(if x.op=5 then[x.text] else[]):=by
 unfold bV;rw[List.take_add_one,h,List.filter_append,List.map_append];by_cases hx:x.op=5<;>simp[hx]
theorem qu(n:List Node):(bV n).length<=n.length:=by
 unfold bV;rw[List.length_map];exact List.length_filter_le _ _
end M
theorem Vl{A:Option Addr}{m k:Nat}{l:List M.Node}(h:bn ENode w S A m l)(hk:k<m):∃ad x,A=some ad/\S ad.block/\l[k]? =some x/\x.jd/\w.cell? (ad.add (k*10))=some (.int .i64 x.op)/\∀i u,x.cells[i+1]? =some u->w.cell? ⟨(ad.add (k*10)).block,(ad.add (k*10)).off+(i+1),none⟩=some u:=by
 obtain⟨ad,y,cs,rfl,hb,hy,hr,hc⟩:=h.NY hk;obtain⟨rfl,hx⟩:=ENode.inv hr;refine⟨ad,y,rfl,hb,hy,hx,?_,fun i u hu=> ?_⟩
 ·have:=hc 0 _ rfl
  rwa [show k*ENode.n+0=k*10 from rfl] at this
 ·have:=hc (i+1) u hu
  rwa [show k*ENode.n=k*10 from rfl,iO (i+1) (by omega)] at this
theorem Ip(n:List M.Node)(A:Option Addr)(c:Nat)(S:Nat->Prop)(w:World)(hS:∀b,S b->b<w.heap.size)(aI:bX A n.length c)(hl:bn ENode w S A n.length n):
 Calls Tryz.prog 16 #[.slice A n.length c] w fun e w'=>Below w.heap.size w w'/\∃D dc,e= .returned (.slice D (M.bV n).length dc)/\bX D (M.bV n).length dc/\bn bN w' (New w w') D (M.bV n).length (M.bV n):=by
 have hm:=aI.le;have dC:=aI.2.1;have H:=q_ hl;have HS:=q_ hS;have HN:=q_ (M.qu n);clear hl hS aI;go_enter Tryz.func16,Tryz.ntmps16;go_wp2_with fail;go_loopw [3,8] (fun v y wr=>∃k:Nat,k<=n.length/\y= .int .i64 k/\aD bN 9 wr w.heap.size xz v (M.bV (n.take k))/\Below w.heap.size w wr) (fun _ y _=>n.length-(intOf y).toNat)
 case atStart=>exact⟨0,by omega,rfl,aD.nil (fun b hb=>hb.elim),Below.refl _ _⟩
 case round=>
  obtain⟨k,hk,rfl,hown,hb⟩:=hrel;have OW:=q_ hown;have HB:=q_ hb;clear hown hb;by_cases hlt:k<n.length
  ·have q1:decide ((k:Int)<(n.length:Int))=true:=by simp;omega
   obtain⟨ad,x,rfl,yx,hx,kE,e0,he⟩:=Vl (H.o.below HB.o HS.o) hlt;have yF:x.text.size<=1048576:=kE.2.2.1;have e1:=he 0 _ rfl;have e2:=he 1 _ rfl;have e3:=he 2 _ rfl;have e4:=he 3 _ rfl;have e5:=he 4 _ rfl;have e6:=he 5 _ rfl;have e7:=he 6 _ rfl;have e8:=he 7 _ rfl;have e9:=he 8 _ rfl;have NX:=q_ (M.xO hx);have XB:=q_ (ar.new wr 129 #[.int .i64 0,.int .i64 0,.string ⟨#[]⟩,.int .i64 0,.string ⟨#[]⟩,.int .i64 0,.int .i64 0,.int .i64 0,.int .i64 0,.int .i64 0]);have B1:=q_ ((Below.refl _ wr).alloc (n_) (.cells #[.int .i64 0,.int .i64 0,.string ⟨#[]⟩,.int .i64 0,.string ⟨#[]⟩,.int .i64 0,.int .i64 0,.int .i64 0,.int .i64 0,.int .i64 0] 129));have TK:=q_ (show(M.bV (n.take k)).length<=1048576 from t_ (M.qu _) (by rw[List.length_take];omega));clear he hx kE;cases hq:decide (x.op=5) with
   |false=>
    have hne:x.op≠5:=of_decide_eq_false hq;have q2:(x.op==5)=false:=by simp[hne]
    have NX2:=q_ (show M.bV (n.take (k+1))=M.bV (n.take k) by rw[NX.o,if_neg hne,List.append_nil]);clear hne hq;go_wp2_with (refine ah (cs':=#[.int .i64 x.op,.int .i64 x.n,.string x.text,.int .i64 x.num,.string x.path.aN,.int .i64 x.path.aP,.int .i64 x.path.aR,.int .i64 x.path.rep,.int .i64 x.path.comp,.int .i64 x.path.sub]) rfl 129 (.tmp 5) (.tmp 11) rfl wr.heap.size (by rfl) (by rfl) XB.o rfl (by kernel_rfl) (by simp[Value.oneCell']) ?_;intro w4 k4 g4;have Z9:=q_ k4;have B4:=q_ (ai B1.o g4 (n_));have z4:=k4.cell;clear k4 g4 e0 e1 e2 e3 e4 e5 e6 e7 e8 e9);go_roundw
    case rel=>exact⟨k+1,hlt,by go_num,by rw[NX2.o];exact OW.o.below B4.o,HB.o.trans (B4.o.mono HB.o.size)⟩
    case measure=>simp[intOf];omega
   |true=>
    have heq:x.op=5:=of_decide_eq_true hq;have q2:(x.op==5)=true:=by simp[heq]
    have NX2:=q_ (show M.bV (n.take (k+1))=M.bV (n.take k)++[x.text] by rw[NX.o,if_pos heq]);obtain⟨itS,jcq,hzS,hsS,nQ⟩:=info_parts ji;clear heq hq
    go_wp2_with (first
     |(refine ah (cs':=#[.int .i64 x.op,.int .i64 x.n,.string x.text,.int .i64 x.num,.string x.path.aN,.int .i64 x.path.aP,.int .i64 x.path.aR,.int .i64 x.path.rep,.int .i64 x.path.comp,.int .i64 x.path.sub]) rfl 129 (.tmp 5) (.tmp 11) rfl wr.heap.size (by rfl) (by rfl) XB.o rfl (by kernel_rfl) (by simp[Value.oneCell']) ?_
       intro w4 k4 g4;have B4:=q_ (ai B1.o g4 (n_));have z4:=k4.cell;have Q5:=q_ (ar.new w4 9 #[.string x.text]);have B5:=q_ (B4.o.alloc B4.o.size (.cells #[.string x.text] 9));have SK:=q_ (OW.o.below B5.o);clear k4 g4 e0 e1 e2 e3 e4 e5 e6 e7 e8 e9)
     |(refine ay rfl (.tmp 15) (.tmp 18) _ rfl itS _ 16 Tryz.underlying31 jcq hzS hsS nQ rfl rfl SK.o ⟨w4.heap.size,0,none⟩ 1 1 [x.text] rfl rfl (fw Q5.o ⟨rfl,yF⟩) (by have:=TK.o;omega) (by omega) (by have:=HB.o.size;have:=B5.o.size;omega) ?_
       intro o6 w6 jt dw oH ho6;have OW6:=q_ jt;have B6:=q_ (show Below w.heap.size w w6 from(HB.o.trans (B5.o.mono HB.o.size)).trans dw);clear jt dw oH ho6)
     |fail)
    go_roundw
    case rel=>exact⟨k+1,hlt,by go_num,by rw[NX2.o];exact OW6.o,B6.o⟩
    case measure=>simp[intOf];omega
  ·obtain rfl:k=n.length:=by omega
   have q1:decide ((n.length:Int)<(n.length:Int))=false:=by simp
   rw[List.take_length] at OW;obtain⟨D,dc,ev⟩:=OW.o.shape;subst ev;have hr:=OW.o.made (S:=xz) (fun b hb=>hb.elim) (by have:=HN.o;omega);obtain⟨D2,dc2,e2,oJ,hl2⟩:=aU.av (E:=bN) hr;injection e2 with e2 e3 e4;subst e2 e4;have ZZ:=q_ oJ;have L2:=q_ hl2;clear hr oJ hl2;go_wp2;go_ret;exact⟨HB.o,D,dc,rfl,ZZ.o,L2.o⟩
def M.df(fuel:Int):Nat:=(min (max fuel 0) 2000).toNat
def sI(d:M.bR)(v tv:Value)(now:ByteArray):PV:=⟨d,v,tv,now,.slice none 0 0,.slice none 0 0,false⟩
theorem xP(d:M.bR)(A:Option Addr)(c:Nat)(l:List M.Seg)(S:Nat->Prop)(tv:Value)(now:ByteArray)(fuel:Int)(w:World)(aI:bX A l.length c)(hl:bn aX w S A l.length l)(hS:∀b,S b->b<w.heap.size)(htv:∃a m n,tv= .slice a m n):
 Calls Tryz.prog 17 #[.agg #[.int .u8 (d.f.toNat:Int),.int .u8 (d.c.toNat:Int),.int .u8 (d.r.toNat:Int),.int .u8 (d.e.toNat:Int),.int .u8 (d.s.toNat:Int),.slice A l.length c],tv,.string now,.int .i64 fuel] w fun e w'=>Below w.heap.size w w'/\∃g A2 c2,e= .returned (.pointer (some ⟨g,0,none⟩))/\w.heap.size<=g/\ar w' g 64 (PV.cells (sI (M.canon ⟨d,l⟩).d (.slice A2 (M.canon ⟨d,l⟩).aH.length c2) tv now) (M.df fuel) 0)/\bX A2 (M.canon ⟨d,l⟩).aH.length c2/\bn aX w' (fun b=>New w w' b/\b≠g) A2 (M.canon ⟨d,l⟩).aH.length (M.canon ⟨d,l⟩).aH:=by
 have MB:=q_ (ar.new w 27 #[.int .u8 (d.f.toNat:Int),.int .u8 (d.c.toNat:Int),.int .u8 (d.r.toNat:Int),.int .u8 (d.e.toNat:Int),.int .u8 (d.s.toNat:Int),.slice A l.length c]);have B1:=q_ ((Below.refl _ w).alloc (n_) (.cells #[.int .u8 (d.f.toNat:Int),.int .u8 (d.c.toNat:Int),.int .u8 (d.r.toNat:Int),.int .u8 (d.e.toNat:Int),.int .u8 (d.s.toNat:Int),.slice A l.length c] 27));have KC:=q_ (eP d A c l S (w.alloc (.cells #[.int .u8 (d.f.toNat:Int),.int .u8 (d.c.toNat:Int),.int .u8 (d.r.toNat:Int),.int .u8 (d.e.toNat:Int),.int .u8 (d.s.toNat:Int),.slice A l.length c] 27)) aI (hl.below B1.o hS) (fun b hb=>l_ (hS b hb) B1.o.size));obtain⟨ta,tm,tn,rfl⟩:=htv;generalize M.canon ⟨d,l⟩=m2 at KC⊢;clear aI hl hS;go_enter Tryz.func17,Tryz.ntmps17;go_wp2_with fail;generalize w.alloc (.cells #[.int .u8 (d.f.toNat:Int),.int .u8 (d.c.toNat:Int),.int .u8 (d.r.toNat:Int),.int .u8 (d.e.toNat:Int),.int .u8 (d.s.toNat:Int),.slice A l.length c] 27)=w1 at MB B1 KC⊢;have zm:=MB.o.cell;go_wp2_with fail;refine KC.o.mono ?_;rintro e w2 ⟨A2,c2,rfl,hk2,hl2,hb2⟩;have ZZ:=q_ hk2;have L2:=q_ hl2;have B2:=q_ hb2;clear hk2 hl2 hb2 KC zm
 go_wp2_with fail;have hfu:min (max fuel 0) 2000=((M.df fuel:Nat):Int):=by unfold M.df;omega
 rw[hfu];clear hfu;have P3:=q_ (ar.new w2 64 (PV.cells (sI m2.d (.slice A2 m2.aH.length c2) (.slice ta tm tn) now) (M.df fuel) 0));have B3:=q_ ((Below.refl _ w2).alloc (n_) (.cells (PV.cells (sI m2.d (.slice A2 m2.aH.length c2) (.slice ta tm tn) now) (M.df fuel) 0) 64));unfold PV.cells sI at P3 B3;go_ret;exact⟨(B1.o.trans (B2.o.mono B1.o.size)).trans (B3.o.mono (t_ B1.o.size B2.o.size)),w2.heap.size,A2,c2,rfl,t_ B1.o.size B2.o.size,P3.o,ZZ.o,(L2.o.below B3.o (fun b hb=>hb.2)).wide (fun b hb=>⟨⟨t_ B1.o.size hb.1,l_ hb.2 B3.o.size⟩,by have:=hb.2;omega⟩)⟩
end Go.Proofs.YtpohlhkgbmdieaaGreatDoor
