/- Part 12 of the proof. -/
import Derived.Test.YtpohlhkgbmdieaaGreatDoorW11
import Derived.Laws.EntriesVeiled
import Derived.Lib.SlTrimSet
import Derived.BigQuiet
set_option linter.unusedVariables false
set_option maxRecDepth 1000000
set_option maxHeartbeats 16000000
namespace Go.Proofs.YtpohlhkgbmdieaaGreatDoor
variable{v:ByteArray}{α:Type}{x:α}
section
open Go.RowKit
theorem Gf:Enters Tryz.prog 93:=fun _ _=>rfl
theorem Gg:Enters Tryz.prog 95:=fun _ _=>rfl
theorem Gh:Enters Tryz.prog 96:=fun _ _=>rfl
theorem Gi:Enters Tryz.prog 97:=fun _ _=>rfl
theorem Gj:Enters Tryz.prog 99:=fun _ _=>rfl
theorem Gk:Enters Tryz.prog 101:=fun _ _=>rfl
theorem CY(s:ByteArray)(w:World):Calls Tryz.prog 95 #[.string s] w fun e w'=>e= .returned (.string s)/\w=w':=by
 go_enter Tryz.func95,Tryz.ntmps95;go_wp2;go_ret;exact⟨rfl,rfl⟩
theorem CZ(s:ByteArray)(w:World):Calls Tryz.prog 96 #[.string s] w fun e w'=>e= .returned (.bool s.data.toList.isEmpty)/\w=w':=by
 go_enter Tryz.func96,Tryz.ntmps96;go_wp2;go_ret;exact⟨by simp[ByteArray.toList_eq],rfl⟩
theorem C5(A:Option Addr)(n c:Nat)(w:World):Calls Tryz.prog 99 #[.slice A n c] w fun e w'=>e= .returned (.bool (decide (n=0)))/\w=w':=by
 go_enter Tryz.func99,Tryz.ntmps99;go_wp2;go_ret;exact⟨by rw[show((n:Int)==0)=decide (n=0) from by rw[Bool.eq_iff_iff];simp];rfl,rfl⟩
theorem Gl(A:Option Addr)(n c:Nat)(w:World):Calls Tryz.prog 101 #[.slice A n c] w fun e w'=>e= .returned (.bool (decide (n=0)))/\w=w':=by
 go_enter Tryz.func101,Tryz.ntmps101;go_wp2;go_ret;exact⟨by rw[show((n:Int)==0)=decide (n=0) from by rw[Bool.eq_iff_iff];simp];rfl,rfl⟩
theorem lZ(l:List α):decide (l.length=0)=l.isEmpty:=by cases l<;>simp
theorem Gm(u:Value)(l:List ByteArray)(S:Nat->Prop)(w:World)(h:cJ.R w S [u] l)(hS:∀b,S b->b<w.heap.size):
 Calls Tryz.prog 93 #[u] w (gX cJ w (M.FY l)):=by
 obtain⟨A,c,rfl,aI,hl⟩:=aU.av (E:=bN) h
 have K:=trim_any trimI1 bN bN rfl rfl (fun W S u y h=>⟨_,(bN.inv h).1⟩) id (fun v=>v.data.toList.isEmpty) 95 96 #[] #[] A l.length c l S w hl hS aI Gg Gh
  (fun W u x hb hr hx=>by
    obtain⟨rfl,hz⟩:=bN.inv hr;exact(CY x W).mono fun e w' ⟨he,hw⟩=>⟨_,he,bN.mk hz,hw▸Below.refl _ _⟩)
  (fun W SW u y hb hr=>by
    obtain⟨rfl,hz⟩:=bN.inv hr;exact(CZ y W).mono fun e w' ⟨he,hw⟩=>⟨he,hw▸Below.refl _ _⟩)
 rw[List.map_id] at K;have KK:=q_ K;clear K h hS aI hl;go_enter Tryz.func93,Tryz.ntmps93;go_wp2_with fail;refine KK.o.mono ?_;rintro e w2 ⟨v,rfl,hr,hb⟩;have HR:=q_ hr;have HB:=q_ hb;clear hr hb;go_wp2;go_ret;exact⟨_,rfl,HR.o,HB.o⟩
theorem Gn(u:Value)(l:List (List ByteArray))(g:Nat)(S:Nat->Prop)(w:World)(h:jQ.R w S [u] l)(hS:∀b,S b->b<w.heap.size)(hg:g<w.heap.size)(hc:w.cell? ⟨g,0,none⟩=some (.func (.func 93) #[] #[])):
 Calls Tryz.prog 97 #[u,.pointer (some ⟨g,0,none⟩)] w (gX jQ w (M.FZ l)):=by
 obtain⟨A,c,rfl,aI,hl⟩:=aU.av (E:=cJ) h
 have K:=trim_any trimI2 cJ cJ rfl rfl (fun W S u y h=>bF h) M.FY List.isEmpty 93 99 #[] #[] A l.length c l S w hl hS aI Gf Gj
  (fun W u x hb hr hx=>Gm u x S W hr (fun b h=>l_ (hS b h) hb.size))
  (fun W SW u y hb hr=>by
    obtain⟨A,c,rfl,aI,hl⟩:=aU.av (E:=bN) hr;exact(C5 A y.length c W).mono fun e w' ⟨he,hw⟩=>⟨by rw[he,lZ],hw▸Below.refl _ _⟩)
 have KK:=q_ K;clear K h hS aI hl;go_enter Tryz.func97,Tryz.ntmps97;go_wp2_with fail;refine KK.o.mono ?_;rintro e w2 ⟨v,rfl,hr,hb⟩;have HR:=q_ hr;have HB:=q_ hb;clear hr hb;go_wp2;go_ret;exact⟨_,rfl,HR.o,HB.o⟩
theorem Gp(u:Value)(l:List (List (List ByteArray)))(S:Nat->Prop)(w:World)(h:cG.R w S [u] l)(hS:∀b,S b->b<w.heap.size):
 Calls Tryz.prog 43 #[u] w (gX cG w (M.Ag l)):=by
 obtain⟨A,c,rfl,aI,hl⟩:=aU.av (E:=jQ) h;have hb0:Below w.heap.size w (w.alloc (.cells #[.func (.func 93) #[] #[]] 136)):=(Below.refl _ _).alloc (n_) _
 have K:=trim_any trimI3 jQ jQ rfl rfl (fun W S u y h=>bF h) M.FZ List.isEmpty 97 101 #[.pointer (some ⟨w.heap.size,0,none⟩)] #[] A l.length c l S (w.alloc (.cells #[.func (.func 93) #[] #[]] 136)) (hl.below hb0 hS) (fun b h=>l_ (hS b h) hb0.size) aI Gi Gk
  (fun W u x hb hr hx=>Gn u x w.heap.size S W hr (fun b h=>l_ (hS b h) (t_ hb0.size hb.size)) (l_ (by simp) hb.size) ((hb.cell (p:=⟨w.heap.size,0,none⟩) (by simp)).trans ((ar.new w _ _).cell 0)))
  (fun W SW u y hb hr=>by
    obtain⟨A,c,rfl,aI,hl⟩:=aU.av (E:=cJ) hr;exact(Gl A y.length c W).mono fun e w' ⟨he,hw⟩=>⟨by rw[he,lZ],hw▸Below.refl _ _⟩)
 have KK:=q_ K;have H0:=q_ hb0;clear K h hS aI hl hb0;go_enter Tryz.func43,Tryz.ntmps43;have Tu:∀(fn:Fn) (first cap:Array Value) (w:World),(Instr.makeFunc fn first cap).run Tryz.prog w= .ok (.func fn first cap) w:=fun _ _ _ _=>rfl;go_wp2_with fail;refine KK.o.mono ?_;rintro e w2 ⟨v,rfl,hr,hb⟩;have HR:=q_ (aU.wide hr (S':=New w w2) (fun b h=>⟨t_ H0.o.size h.1,h.2⟩));have HB:=q_ (H0.o.trans (hb.mono H0.o.size));clear hr hb;go_wp2;go_ret;exact⟨_,rfl,HR.o,HB.o⟩
theorem Ks:Enters Tryz.prog 43:=fun _ _=>rfl
theorem Kt:Enters Tryz.prog 44:=fun _ _=>rfl
theorem C6(A:Option Addr)(n c:Nat)(w:World):Calls Tryz.prog 44 #[.slice A n c] w fun e w'=>e= .returned (.bool (decide (n=0)))/\w=w':=by
 go_enter Tryz.func44,Tryz.ntmps44;go_wp2;go_ret;exact⟨by rw[show((n:Int)==0)=decide (n=0) from by rw[Bool.eq_iff_iff];simp];rfl,rfl⟩
theorem C7(A:Option Addr)(c:Nat)(l:List (List (List (List ByteArray))))(S:Nat->Prop)(w:World)(aI:bX A l.length c)(hl:bn cG w S A l.length l)(hS:∀b,S b->b<w.heap.size):
 Calls Tryz.prog 42 #[.slice A l.length c,.func (.func 43) #[] #[],.func (.func 44) #[] #[]] w (gX dR w (M.bw List.isEmpty (l.map M.Ag))):=
 trim_any trimI4 cG cG rfl rfl (fun W S u y h=>bF h) M.Ag List.isEmpty 43 44 #[] #[] A l.length c l S w hl hS aI Ks Kt
  (fun W u x hb hr hx=>Gp u x S W hr (fun b h=>l_ (hS b h) hb.size))
  (fun W SW u y hb hr=>by
    obtain⟨A,c,rfl,aI,hl⟩:=aU.av (E:=jQ) hr;exact(C6 A y.length c W).mono fun e w' ⟨he,hw⟩=>⟨by rw[he,lZ],hw▸Below.refl _ _⟩)
theorem Og:(Tryz.prog.info? 48).map (fun i=>(i.zero,i.size,i.bytes))=some (some (.agg #[.string ByteArray.empty,.slice none 0 0]),2,40):=by kernel_rfl
theorem eP(d:M.bR)(A:Option Addr)(c:Nat)(l:List M.Seg)(S:Nat->Prop)(w:World)(aI:bX A l.length c)(hl:bn aX w S A l.length l)(hS:∀b,S b->b<w.heap.size):
 Calls Tryz.prog 12 #[.agg #[.int .u8 (d.f.toNat:Int),.int .u8 (d.c.toNat:Int),.int .u8 (d.r.toNat:Int),.int .u8 (d.e.toNat:Int),.int .u8 (d.s.toNat:Int),.slice A l.length c]] w (CS w (M.canon ⟨d,l⟩)):=by
 have hm:=aI.le;obtain⟨it,hit,hz,hs1,hb1⟩:=info_parts Og;have H:=q_ hl;have HS:=q_ hS;have J1:=q_ hit;have J2:=q_ hz;have J3:=q_ hs1;have J4:=q_ hb1;generalize Al:l.length=m at*;have HM:=q_ Al
 have B0:=q_ (show Below w.heap.size w (((w.alloc (.cells #[.int .u8 (d.f.toNat:Int),.int .u8 (d.c.toNat:Int),.int .u8 (d.r.toNat:Int),.int .u8 (d.e.toNat:Int),.int .u8 (d.s.toNat:Int),.slice A m c] 27)).alloc (.cells #[.int .u8 0,.int .u8 0,.int .u8 0,.int .u8 0,.int .u8 0,.slice none 0 0] 27)).alloc (.cells #[.int .u8 (d.f.toNat:Int),.int .u8 (d.c.toNat:Int),.int .u8 (d.r.toNat:Int),.int .u8 (d.e.toNat:Int),.int .u8 (d.s.toNat:Int),.slice none 0 0] 27)) from
  (((Below.refl w.heap.size w).alloc (n_) _).alloc (by simp) _).alloc (by simp;omega) _)
 have k2:=(ar.new (w.alloc (.cells #[.int .u8 (d.f.toNat:Int),.int .u8 (d.c.toNat:Int),.int .u8 (d.r.toNat:Int),.int .u8 (d.e.toNat:Int),.int .u8 (d.s.toNat:Int),.slice A m c] 27)) 27 #[.int .u8 0,.int .u8 0,.int .u8 0,.int .u8 0,.int .u8 0,.slice none 0 0]).alloc (.cells #[.int .u8 (d.f.toNat:Int),.int .u8 (d.c.toNat:Int),.int .u8 (d.r.toNat:Int),.int .u8 (d.e.toNat:Int),.int .u8 (d.s.toNat:Int),.slice none 0 0] 27);have k3:=ar.new ((w.alloc (.cells #[.int .u8 (d.f.toNat:Int),.int .u8 (d.c.toNat:Int),.int .u8 (d.r.toNat:Int),.int .u8 (d.e.toNat:Int),.int .u8 (d.s.toNat:Int),.slice A m c] 27)).alloc (.cells #[.int .u8 0,.int .u8 0,.int .u8 0,.int .u8 0,.int .u8 0,.slice none 0 0] 27)) 27 #[.int .u8 (d.f.toNat:Int),.int .u8 (d.c.toNat:Int),.int .u8 (d.r.toNat:Int),.int .u8 (d.e.toNat:Int),.int .u8 (d.s.toNat:Int),.slice none 0 0];simp only[World.size_alloc] at k2 k3;have K2:=q_ k2;have K3:=q_ k3
 have Z0:=q_ (show w.heap.size+3<=(((w.alloc (.cells #[.int .u8 (d.f.toNat:Int),.int .u8 (d.c.toNat:Int),.int .u8 (d.r.toNat:Int),.int .u8 (d.e.toNat:Int),.int .u8 (d.s.toNat:Int),.slice A m c] 27)).alloc (.cells #[.int .u8 0,.int .u8 0,.int .u8 0,.int .u8 0,.int .u8 0,.slice none 0 0] 27)).alloc (.cells #[.int .u8 (d.f.toNat:Int),.int .u8 (d.c.toNat:Int),.int .u8 (d.r.toNat:Int),.int .u8 (d.e.toNat:Int),.int .u8 (d.s.toNat:Int),.slice none 0 0] 27)).heap.size from by simp);clear hl hS aI hit hz hs1 hb1 Al k2 k3;go_enter Tryz.func12,Tryz.ntmps12;go_wp2_with fail
 go_loopw [12] (fun x wr=>∃(k:Nat) (S':Nat->Prop) (v:Value),k<=m/\x= .int .i64 k/\aD aX 48 wr (w.heap.size+3) S' v ((l.take k).map M.eO)/\(∀b,S' b->w.heap.size+3<=b)/\
  ar wr (w.heap.size+1) 27 #[.int .u8 0,.int .u8 0,.int .u8 0,.int .u8 0,.int .u8 0,.slice none 0 0]/\ar wr (w.heap.size+1+1) 27 #[.int .u8 (d.f.toNat:Int),.int .u8 (d.c.toNat:Int),.int .u8 (d.r.toNat:Int),.int .u8 (d.e.toNat:Int),.int .u8 (d.s.toNat:Int),v]/\Below w.heap.size w wr/\w.heap.size+3<=wr.heap.size) (fun x _=>m-(intOf x).toNat)
 case atStart=>exact⟨0,fun _=>False,_,by omega,rfl,aD.nil (fun b hb=>hb.elim),(fun b hb=>hb.elim),K2.o,K3.o,B0.o,Z0.o⟩
 case round=>
  obtain⟨k,S',v,hk,rfl,hown,dS,k2,k3,bS,hz3⟩:=hrel;have OW:=q_ hown;have SG:=q_ dS;have Y2:=q_ k2;have Y3:=q_ k3;have BW:=q_ bS;clear hown dS k2 k3 bS;by_cases hlt:k<m
  ·obtain⟨ad,s,cs,rfl,hb,hx,hr,hc⟩:=(H.o.dB BW.o HS.o).NY hlt
   obtain⟨A1,c1,rfl,uH,ee,Tv⟩:=aX.inv hr;have e0:=hc 0 _ rfl;have e1:=hc 1 _ rfl;rw[show aX.n=2 from rfl] at e0 e1;rw[Nat.add_zero] at e0;rw[iO 1 (by omega)] at e1;have HX:=q_ hx;have F1:=q_ Tv;have N1:=q_ ee;clear hx Tv ee hr hc;go_wp2_with fail;have XS:=q_ (ar.new wr 48 #[.string s.name,.slice A1 s.fields.length c1]);have X2:=q_ (Y2.o.alloc (.cells #[.string s.name,.slice A1 s.fields.length c1] 48));have X3:=q_ (Y3.o.alloc (.cells #[.string s.name,.slice A1 s.fields.length c1] 48));have XB:=q_ ((Below.refl wr.heap.size wr).alloc (n_) (.cells #[.string s.name,.slice A1 s.fields.length c1] 48));have F2:=q_ (F1.o.below XB.o (fun b h=>l_ (HS.o b h) BW.o.size));have O2:=q_ (OW.o.below XB.o);have HT:=q_ (show(l.take (k+1)).map M.eO=(l.take k).map M.eO++[M.eO s] from by rw[List.take_add_one,HX.o];simp);have qV:=q_ (show((l.take k).map M.eO).length<=m from by rw[List.length_map,List.length_take];have:=HM.o;omega);have Sz:(wr.alloc (.cells #[.string s.name,.slice A1 s.fields.length c1] 48)).heap.size=wr.heap.size+1:=by simp
   have Z5:=q_ Sz;have B5:=q_ (BW.o.trans (XB.o.mono BW.o.size));clear Sz;generalize hW5:wr.alloc (.cells #[.string s.name,.slice A1 s.fields.length c1] 48)=W5 at*;clear hW5;generalize (l.take k).map M.eO=acc at*;have HC:=q_ (fun W (hW:Below W5.heap.size W5 W)=>C7 A1 c1 s.fields S W N1.o (F2.o.dB hW (fun b h=>by have:=HS.o b h;have:=BW.o.size;have:=Z5.o;omega)) (fun b h=>by have:=HS.o b h;have:=BW.o.size;have:=Z5.o;have:=hW.size;omega))
   refine aO 9 [] aj (fun
    |6=>some fun u w'=>∃A2 n2 c2 S2,u= .slice A2 n2 c2/\(∀b,S2 b->W5.heap.size<=b/\b<w'.heap.size)/\dR.R w' S2 [.slice A2 n2 c2] (M.eO s).fields
    |7=>some fun u w'=>∃A2 n2 c2 S2,u= .agg #[.string s.name,.slice A2 n2 c2]/\(∀b,S2 b->W5.heap.size<=b/\b<w'.heap.size)/\dR.R w' S2 [.slice A2 n2 c2] (M.eO s).fields
    |8=>some fun u w'=>∃A2 n2 c2 S2 g,u= .slice (some ⟨g,0,none⟩) 1 1/\ar w' g 48 #[.string s.name,.slice A2 n2 c2]/\(∀b,S2 b->W5.heap.size<=b/\b<w'.heap.size)/\dR.R w' S2 [.slice A2 n2 c2] (M.eO s).fields
    |_=>none) (by kernel_rfl) (by kernel_rfl) aj.refl (by simp) (aj.draw _) aj.trans ?_ ?_
   ·intro j φ u x y hB hp jK
    split at hB<;>cases hB
    ·obtain⟨A2,n2,c2,S2,e,hs,hr⟩:=hp
     exact⟨A2,n2,c2,S2,e,fun b h=>⟨(hs b h).1,l_ (hs b h).2 jK.size⟩,aU.below hr jK (fun b h=>(hs b h).2)⟩
    ·obtain⟨A2,n2,c2,S2,e,hs,hr⟩:=hp
     exact⟨A2,n2,c2,S2,e,fun b h=>⟨(hs b h).1,l_ (hs b h).2 jK.size⟩,aU.below hr jK (fun b h=>(hs b h).2)⟩
    ·obtain⟨A2,n2,c2,S2,g,e,hg,hs,hr⟩:=hp
     exact⟨A2,n2,c2,S2,g,e,hg.stays jK,fun b h=>⟨(hs b h).1,l_ (hs b h).2 jK.size⟩,aU.below hr jK (fun b h=>(hs b h).2)⟩
   ·apply au rfl rfl
    ·intro vs wx hk K hK
     go_simp;exact hK _ (aj.refl _)
    intro KK af;go_simp;refine af _ ?_;clear af KK
    iterate 5
     apply au rfl rfl
     ·intro vs wx hk K hK
      first
      |have c0:=fun i=>(X3.o.stays hk.1).cell i
       go_simp;exact hK _ (aj.refl _)
      |have c0:=fun i=>(XS.o.stays hk.1).cell i
       go_simp;exact hK _ (aj.refl _)
     intro KK af;go_simp;refine af _ ?_;clear af KK
    refine bp rfl ?_ ?_
    ·intro vs wx hk K hK
     have C:=HC.o _ hk.1;go_simp;exact C.mono fun x w' ⟨u,hx,hr,hb'⟩=>by obtain⟨A2,n2,c2,rfl⟩:=bF (E:=cG) hr;exact⟨_,hx,hK _ _ hb' ⟨A2,n2,c2,_,rfl,fun b h=>⟨t_ hk.1.size h.1,h.2⟩,hr⟩⟩
    intro KK af;go_simp;refine af _ ?_;clear af KK;refine bp rfl ?_ ?_
    ·intro vs wx hk K hK
     obtain⟨A2,n2,c2,S2,e,hs,hr⟩:=hk.2 6 _ rfl (by kernel_rfl);go_simp;exact hK _ _ (aj.refl _) ⟨A2,n2,c2,S2,rfl,hs,hr⟩
    intro KK af;go_simp;refine af _ ?_;clear af KK;refine bp rfl ?_ ?_
    ·intro vs wx hk K hK
     obtain⟨A2,n2,c2,S2,e,hs,hr⟩:=hk.2 7 _ rfl (by kernel_rfl);go_simp;exact hK _ _ (aj.alloc _ _) ⟨A2,n2,c2,S2,_,rfl,ar.new _ _ _,fun b h=>⟨(hs b h).1,l_ (hs b h).2 (by simp)⟩,aU.below hr (aj.alloc _ _) (fun b h=>(hs b h).2)⟩
    intro KK af;go_simp;refine af _ ?_;clear af KK;refine bg ?_;intro vs w4 yb hv4;obtain⟨A2,n2,c2,S2,g,e,hg,hs,hr⟩:=hv4 8 _ (by omega) rfl;intro KK af;simp only[List.drop_succ_cons];rw[e];have X4:=q_ (X3.o.stays yb);have Y4:=q_ (X2.o.stays yb);have B4:=q_ (Kn B5.o yb);have Z4:=q_ (show w.heap.size+3<=W5.heap.size from by rw[Z5.o];omega);have ZZ4:=q_ (t_ Z4.o yb.size);have O4:=q_ ((O2.o.below yb).widen (S2:=S2) (fun b h=>(hs b h).2) (fun gg Tw h=>by have:=(O2.o.aJ Tw).2;have:=(hs gg h).1;omega));have NW:=q_ (fw (E:=aX) (S:=fun b=>S' b\/S2 b) (x:=M.eO s) hg ⟨[.string s.name],[.slice A2 n2 c2],rfl,⟨rfl,uH⟩,aU.wide hr (fun b h=> .inr h)⟩);have Ns:=q_ (show∀b,(S' b\/S2 b)->w.heap.size+3<=b from fun b h=>h.elim (SG.o b) (fun h=>by have:=(hs b h).1;have:=Z4.o;omega));have OB:=q_ (show∀g',v.ownBlock=some g'->w.heap.size+3<=g' from fun g' h=>(O2.o.aJ h).1);clear hg hs hr e hv4 yb
    refine ay rfl (.tmp 17) (.tmp 24) _ rfl it (.agg #[.string ByteArray.empty,.slice none 0 0]) 40 Tryz.underlying25 J1.o J2.o J3.o J4.o rfl rfl O4.o ⟨g,0,none⟩ 1 1 [M.eO s] rfl rfl NW.o (by have:=qV.o;omega) (by omega) ZZ4.o ?_;intro o4 w5 eY cT qJ _;obtain⟨A5,c5,rfl⟩:=eY.shape;have O5:=q_ eY;have X5:=q_ (X4.o.grown qJ (fun e=>by have:=OB.o _ e.symm;omega));have Y5:=q_ (Y4.o.grown qJ (fun e=>by have:=OB.o _ e.symm;omega));have B5':=q_ cT;clear eY cT qJ;have c1:=fun i=>X5.o.cell i;have f1:=fun i=>X5.o.frozen i;go_wp2;go_roundw
    case rel=>
     have Fw:=X5.o.fK 5 (.slice A5 (acc.length+1) c5);have o5:=O5.o.aK (aV w5 (w.heap.size+1+1) 5 (.slice A5 (acc.length+1) c5)) (fun e=>by have:=(O5.o.aJ e).1;omega) (fun h=>by have:=Ns.o _ h;omega);exact⟨k+1,_,.slice A5 (acc.length+1) c5,by omega,by go_num,by rw[HT.o];simpa using o5,Ns.o,Y5.o.far (by simp) _,Fw,ai (B4.o.trans (B5'.o.mono (by omega))) (aV _ _ _ _) (by omega),by have:=ZZ4.o;have:=B5'.o.size;simp;omega⟩
    case measure=>simp[intOf];omega
  ·have Fv:k=m:=by omega
   subst Fv;have HT:=q_ (show(l.take k).map M.eO=l.map M.eO from by rw[List.take_of_length_le (by have:=HM.o;omega)]);have o1:=OW.o;rw[HT.o] at o1;have Am:(l.map M.eO).length=k:=by rw[List.length_map];exact HM.o
   obtain⟨A5,c5,Cn⟩:=o1.shape;rw[Am] at Cn;subst Cn;have O1:=q_ o1;have HL:=q_ Am;clear o1 Am hlt;have c3:=fun i=>Y3.o.cell i;go_wp2_with (refine ah (cs':=#[.int .u8 (d.f.toNat:Int),.int .u8 (d.c.toNat:Int),.int .u8 (d.r.toNat:Int),.int .u8 (d.e.toNat:Int),.int .u8 (d.s.toNat:Int),.slice A5 k c5]) rfl 27 (.tmp 2) (.tmp 28) rfl (w.heap.size+1) rfl rfl Y2.o rfl (by kernel_rfl) (by simp[Value.oneCell']) ?_;intro w6 k6 oH;have K6:=q_ k6;have G6:=q_ oH;clear k6 oH);have c6:=fun i=>K6.o.cell i;have o6:=O1.o.aK G6.o (fun e=>by have:=(O1.o.aJ e).1;omega) (fun h=>by have:=SG.o _ h;omega);have dw:=ai BW.o G6.o (by omega);have hr6:=o6.reads (S':=New w w6) (fun b h=>⟨by have:=SG.o b h;omega,o6.there b h⟩) (fun g hg=>⟨by have:=(o6.aJ hg).1;omega,(o6.aJ hg).2⟩) (by rw[HL.o];exact hm);obtain⟨A6,c7,e6,jC,hl6⟩:=aU.av (E:=aX) hr6;refine bodyPost_ret (v:= .agg #[.int .u8 (d.f.toNat:Int),.int .u8 (d.c.toNat:Int),.int .u8 (d.r.toNat:Int),.int .u8 (d.e.toNat:Int),.int .u8 (d.s.toNat:Int),.slice A5 k c5]) (by simp[results,Tryz.results12,go_sem,c6]) rfl ⟨A6,c7,?_,jC,hl6,dw⟩;rw[e6];rfl
def pI:List UInt8:=[65,66,67,68,69,70,71,72,73,74,75,76,77,78,79,80,81,82,83,84,85,86,87,88,89,90,48,49,50,51,52,53,54,55,56,57]
theorem C8(b:UInt8):pI.contains b=M.nameB b:=by
 have:∀n:Fin 256,pI.contains (UInt8.ofNat n.val)=M.nameB (UInt8.ofNat n.val):=by decide
 have h:=this ⟨b.toNat,by exact b.toNat_lt⟩;simpa using h
theorem dropWhile_nil(p:α->Bool)(l:List α):(l.dropWhile p).isEmpty=l.all p:=by
 induction l with
 |nil=>rfl
 |cons x l ih=>
  rw[List.dropWhile_cons,List.all_cons];cases h:p x
  ·simp
  ·simp[ih]
theorem C9(l cs:List UInt8):(Lib.trimS l cs).isEmpty=l.all (cs.contains ·):=by
 unfold Lib.trimS Lib.trimLeftS;rw[dropWhile_nil];unfold Lib.trimRightS;rw[List.all_reverse];by_cases h:l.all (cs.contains ·)=true
 ·rw[h]
  have:=dropWhile_nil (cs.contains ·) l.reverse;rw[List.all_reverse,h] at this;rw[List.isEmpty_iff.1 this];rfl
 ·have hf:l.all (cs.contains ·)=false:=by simpa using h
  rw[hf];have h2:=dropWhile_nil (cs.contains ·) l.reverse;rw[List.all_reverse,hf] at h2;cases hd:l.reverse.dropWhile (cs.contains ·) with
  |nil=>rw[hd] at h2;simp at h2
  |cons x r=>
   have h4:=List.head?_dropWhile_not (cs.contains ·) l.reverse;rw[hd] at h4;simp only[List.head?_cons] at h4;rw[List.all_cons,h4];rfl
theorem info232:(Tryz.prog.info? 189).map (fun i=>(i.zero,i.size))=some (some (.agg (Array.replicate 256 (.bool false))),256):=by kernel_rfl
theorem xq(s:ByteArray)(w:World)(hs:s.size<=1048576):
 Calls Tryz.prog 83 #[.string s,.string ⟨#[65,66,67,68,69,70,71,72,73,74,75,76,77,78,79,80,81,82,83,84,85,86,87,88,89,90,48,49,50,51,52,53,54,55,56,57]⟩] w fun e w'=>∃r:ByteArray,e= .returned (.string r)/\r.toList.isEmpty=s.data.toList.all M.nameB/\Below w.heap.size w w':=by
 refine(Tryz.pA info232 s ⟨pI.toArray⟩ w (by omega) (by decide) (ascii_of_all (by decide))).mono fun e w' ⟨he,hb⟩=>⟨_,he,?_,hb⟩
 rw[ByteArray.toList_eq];have:=C9 s.data.toList pI;rw[show(fun b=>pI.contains b)=M.nameB from funext C8] at this;simpa using this
theorem uR(s:ByteArray)(w:World)(hs:s.size<=1048576):Calls Tryz.prog 26 #[.string s] w fun e w'=>e= .returned (.bool (M.isName s))/\Below w.heap.size w w':=by
 have KT:=q_ (xq s w hs);by_cases h3:s.size=3
 ·have h0:0<s.size:=by omega
  have HN:M.isName s=(M.upper (s[0]'h0)&&s.data.toList.all M.nameB):=by
   have hl:s.data.toList.length=3:=by simpa using h3
   unfold M.isName;rw[hl]
   have:s.data.toList.getD 0 0=s[0]'h0:=by
    rw[List.getD_eq_getElem?_getD,e_ (by omega)];rfl
   rw[this];simp
  have HN':=q_ HN;have t1:((s.size:Int) !=3)=false:=by rw[h3];rfl
  clear HN h3;generalize M.isName s=res at*;by_cases ha:(s[0].toNat:Int)<65
  ·have t2:decide ((s[0].toNat:Int)<65)=true:=by simpa using ha
   have HR:=q_ (show res=false from by rw[HN'.o];have:M.upper s[0]=false:=by{unfold M.upper;simp;omega};rw[this];rfl);go_enter Tryz.func26,Tryz.ntmps26;go_wp2_with fail;go_ret;exact⟨by rw[HR.o];rfl,Below.refl _ _⟩
  ·have t2:decide ((s[0].toNat:Int)<65)=false:=by simpa using ha
   by_cases hb:(90:Int)<(s[0].toNat:Int)
   ·have t3:decide ((90:Int)<(s[0].toNat:Int))=true:=by simpa using hb
    have HR:=q_ (show res=false from by rw[HN'.o];have:M.upper s[0]=false:=by{unfold M.upper;simp;omega};rw[this];rfl);go_enter Tryz.func26,Tryz.ntmps26;go_wp2_with fail;go_ret;exact⟨by rw[HR.o];rfl,Below.refl _ _⟩
   ·have t3:decide ((90:Int)<(s[0].toNat:Int))=false:=by simpa using hb
    have HR:=q_ (show res=s.data.toList.all M.nameB from by rw[HN'.o];have:M.upper s[0]=true:=by{unfold M.upper;simp;omega};rw[this];rfl);go_enter Tryz.func26,Tryz.ntmps26;go_wp2_with fail;refine KT.o.mono ?_;rintro e w2 ⟨r,rfl,hr,hb2⟩;have HB:=q_ hb2;have HRR:=q_ hr;clear hb2 hr;go_wp2;go_ret;exact⟨by rw[HR.o,<-HRR.o];rfl,HB.o⟩
 ·have HN:=q_ (show M.isName s=false from by
   have hl:¬s.data.toList.length=3:=by simpa using h3
   unfold M.isName;rw[decide_eq_false hl];rfl)
  have t1:((s.size:Int) !=3)=true:=by simp;omega
  go_enter Tryz.func26,Tryz.ntmps26;go_wp2_with fail;go_ret;exact⟨by rw[HN.o];rfl,Below.refl _ _⟩
theorem bn.Xj{E:aU α}{w:World}{S:Nat->Prop}{A:Option Addr}(hE:E.n=1)(h:bn E w S A 1 [x]):∃ad u,A=some ad/\S ad.block/\E.R w S [u] x/\w.cell? ad=some u:=by
 obtain⟨ad,y,u,rfl,hb,hx,hr,hc⟩:=h.in1 hE (k:=0) (by omega);simp at hx;subst hx;exact⟨ad,u,rfl,hb,hr,hc⟩
theorem oI{l:List α}(h:l.length=1):∃x,l=[x]:=by
 match l,h with
 |[x],_=>exact⟨x,rfl⟩
theorem Xk{a b:List (List ByteArray)}{l:List (List (List ByteArray))}:M.fN (a::b::l) v=false:=by
 unfold M.fN;split
 ·rename_i h
  cases h
 ·rfl
theorem Xl{a b:List ByteArray}{l:List (List ByteArray)}:M.fN [a::b::l] v=false:=by
 unfold M.fN;split
 ·rename_i h
  cases h
 ·rfl
theorem Jd(A:Option Addr)(c:Nat)(f:List (List (List ByteArray)))(v:ByteArray)(S:Nat->Prop)(w:World)(aI:bX A f.length c)(h:bn jQ w S A f.length f):Calls Tryz.prog 28 #[.slice A f.length c,.string v] w fun e w'=>e= .returned (.bool (M.fN f v))/\w=w':=by
 by_cases h1:f.length=1
 ·obtain⟨r,rfl⟩:=oI h1
  obtain⟨ad,u,rfl,hb,hr,hc⟩:=h.Xj rfl;obtain⟨A1,c1,rfl,ok1,l1⟩:=aU.av (E:=cJ) hr;clear h hr h1 aI ok1;simp only[List.length_singleton];by_cases h2:r.length=1
  ·obtain⟨q,rfl⟩:=oI h2
   obtain⟨Oh,u1,rfl,hb1,hr1,hc1⟩:=l1.Xj rfl;obtain⟨A2,c2,rfl,ok2,l2⟩:=aU.av (E:=bN) hr1;clear l1 hr1 h2 ok2;simp only[List.length_singleton] at hc;by_cases h3:q.length=1
   ·obtain⟨x,rfl⟩:=oI h3
    obtain⟨ad2,u2,rfl,hb2,hr2,hc2⟩:=l2.Xj rfl;obtain⟨rfl,_⟩:=bN.inv hr2;clear l2 hr2 h3;simp only[List.length_singleton] at hc1;have HR:M.fN [[[x]]] v=(x.toList==v.toList):=by simp[M.fN,M.bJ,ByteArray.toList_eq]
    rw[HR];go_enter Tryz.func28,Tryz.ntmps28;go_wp2;go_ret;exact⟨rfl,rfl⟩
   ·have HR:M.fN [[q]] v=false:=by
     match q,h3 with
     |[],_=>rfl
     |_::_::_,_=>rfl
    have t3:((q.length:Int)==1)=false:=by simp;omega
    rw[HR];clear l2 h3 HR;go_enter Tryz.func28,Tryz.ntmps28;go_wp2;go_ret;exact⟨rfl,rfl⟩
  ·have HR:M.fN [r] v=false:=by
    match r,h2 with
    |[],_=>rfl
    |_::_::_,_=>exact Xl
   have t3:((r.length:Int)==1)=false:=by simp;omega
   rw[HR];clear l1 h2 HR;go_enter Tryz.func28,Tryz.ntmps28;go_wp2;go_ret;exact⟨rfl,rfl⟩
 ·have HR:M.fN f v=false:=by
   match f,h1 with
   |[],_=>rfl
   |_::_::_,_=>exact Xk
  have t3:((f.length:Int)==1)=false:=by simp;omega
  rw[HR];clear h h1 HR aI;generalize f.length=n at*;go_enter Tryz.func28,Tryz.ntmps28;go_wp2;go_ret;exact⟨rfl,rfl⟩
theorem Je(l:List UInt8)(W:World)(k:Nat)(h:W.heap.size=k):(convert 91 9 (.slice (some ⟨k,0,none⟩) l.length l.length)).run Tryz.prog (W.alloc (.cells (bD l) 5))= .ok (.string ⟨l.toArray⟩) (W.alloc (.cells (bD l) 5)):=by
 subst h;have:=Ao (n:=l.length) (c:=l.length) (ar.new W 5 (bD l)) (n_)
 rwa [List.take_length] at this
theorem Gq(d:M.bR)(w:World):Calls Tryz.prog 25 #[.agg #[.int .u8 (d.f.toNat:Int),.int .u8 (d.c.toNat:Int),.int .u8 (d.r.toNat:Int),.int .u8 (d.e.toNat:Int),.int .u8 (d.s.toNat:Int)]] w fun e w'=>e= .returned (.agg #[.string (M.uJ d),.string (M.uK d)])/\Below w.heap.size w w':=by
 have c1:∀(W:World) (k:Nat),W.heap.size=k->(convert 91 9 (.slice (some ⟨k,0,none⟩) 1 1)).run Tryz.prog (W.alloc (.cells #[.int .u8 (d.f.toNat:Int)] 5))= .ok (.string ⟨#[d.f]⟩) (W.alloc (.cells #[.int .u8 (d.f.toNat:Int)] 5)):=fun W k h=>Je [d.f] W k h;have c4:∀(W:World) (k:Nat),W.heap.size=k->(convert 91 9 (.slice (some ⟨k,0,none⟩) 4 4)).run Tryz.prog (W.alloc (.cells #[.int .u8 (d.c.toNat:Int),.int .u8 (d.r.toNat:Int),.int .u8 (d.e.toNat:Int),.int .u8 (d.s.toNat:Int)] 5))= .ok (.string ⟨#[d.c,d.r,d.e,d.s]⟩) (W.alloc (.cells #[.int .u8 (d.c.toNat:Int),.int .u8 (d.r.toNat:Int),.int .u8 (d.e.toNat:Int),.int .u8 (d.s.toNat:Int)] 5)):=fun W k h=>Je [d.c,d.r,d.e,d.s] W k h;go_enter Tryz.func25,Tryz.ntmps25;go_wp2;refine bodyPost_ret (v:= .agg #[.string (M.uJ d),.string (M.uK d)]) (by simp[results,Tryz.results25,go_sem,M.uJ,M.uK,M.T]) rfl ⟨rfl,?_⟩;exact(((((Below.refl _ _).alloc (n_) _).alloc (by simp) _).alloc (by simp;omega) _).alloc (by simp;omega) _)
def bT(m:Nat)(q:Nat->Bool):Int:=match(List.range m).find? q with
 |some k=>(k:Int)
 |none=> -1
theorem cP{m k:Nat}{q:Nat->Bool}(hk:k<m)(hq:q k=true)(hno:∀j,j<k->q j=false):bT m q=(k:Int):=by
 have:(List.range m).find? q=some k:=by
  rw[List.find?_range_eq_some];exact⟨hq,List.mem_range.2 hk,fun j hj=>by rw[hno j hj];rfl⟩
 unfold bT;rw[this]
theorem dg{m:Nat}{q:Nat->Bool}(hno:∀j,j<m->q j=false):bT m q= -1:=by
 have:(List.range m).find? q=none:=by
  rw[List.find?_eq_none];intro j hj;rw[hno j (List.mem_range.1 hj)];simp
 unfold bT;rw[this]
theorem ez{m:Nat}{q:Nat->Bool}:decide (0<=bT m q)=(List.range m).any q:=by
 unfold bT;cases h:(List.range m).find? q with
 |none=>
  rw[List.find?_eq_none] at h;have:(List.range m).any q=false:=by rw[List.any_eq_false];exact h
  rw[this];rfl
 |some k=>
  have h1:=List.mem_of_find?_eq_some h;have h2:=List.find?_some h;have:(List.range m).any q=true:=List.any_eq_true.2 ⟨k,h1,h2⟩;rw[this];simp
theorem yc{α:Type}{m:Nat}{q:Nat->Bool}{xs:List α}{p:α->Bool}(hm:xs.length=m)(h:∀k x,xs[k]? =some x->q k=p x):(List.range m).any q=xs.any p:=by
 rw[Bool.eq_iff_iff,List.any_eq_true,List.any_eq_true];constructor
 ·rintro⟨k,hk,hq⟩
  have ye:k<xs.length:=by rw[hm];exact List.mem_range.1 hk
  exact⟨xs[k],List.getElem_mem ye,by rw[<-h k _ (e_ ye)];exact hq⟩
 ·rintro⟨x,hx,hp⟩
  obtain⟨k,hk⟩:=List.getElem?_of_mem hx;exact⟨k,List.mem_range.2 (by have:=(g_ hk).1;omega),by rw[h k x hk];exact hp⟩
section
variable {α:Type} {E:aU α} {w w':World} {S:Nat->Prop} {A:Option Addr} {m:Nat} {xs:List α}
theorem Ku{l:List Value}(h:l.length=2):∃u v,l=[u,v]:=by
 match l,h with
 |[u,v],_=>exact⟨u,v,rfl⟩
theorem bn.in2{k:Nat}(hE:E.n=2)(h:bn E w S A m xs)(hk:k<m):∃ad x u v,A=some ad/\S ad.block/\xs[k]? =some x/\E.R w S [u,v] x/\w.cell? (ad.add (k*2))=some u/\w.cell? ⟨(ad.add (k*2)).block,(ad.add (k*2)).off+1,none⟩=some v:=by
 obtain⟨ad,x,cs,rfl,hb,hx,hr,hc⟩:=h.NY hk;obtain⟨u,v,rfl⟩:=Ku ((E.len hr).trans hE);refine⟨ad,x,u,v,rfl,hb,hx,hr,?_,?_⟩
 ·have:=hc 0 u rfl
  rwa [hE,Nat.add_zero] at this
 ·have:=hc 1 v rfl
  rwa [hE,iO 1 (by omega)] at this
end
theorem Gr{α:Type}(E:aU α)(hE:E.n=2)(q:Nat->Bool)(J:Nat->World->Prop)(fi:FuncId)(ci:Array Value)(A:Option Addr)(m c:Nat)(xs:List α)(S:Nat->Prop)(w:World)(iQ:Enters Tryz.prog fi)(aI:bX A m c)(h0:J 0 w)(hl:∀k W,J k W->bn E W S A m xs)(hq:∀k W x u v,k<m->J k W->xs[k]? =some x->E.R W S [u,v] x->Calls Tryz.prog fi (#[.agg #[u,v]]++ci) W fun e w'=>e= .returned (.bool (q k))/\J (k+1) w'):
 Calls Tryz.prog 241 #[.slice A m c,.func (.func fi) #[] ci] w fun e w'=>e= .returned (.int .i64 (bT m q))/\∃k,J k w':=by
 have hm:=aI.le;have GI:=q_ iQ;have HL:=q_ hl;have HQ:=q_ hq;have J0:=q_ h0;have gi:=fun args w=>iQ args w;clear iQ hl hq h0 aI;go_enter Tryz.func241,Tryz.ntmps241;go_wp2_with fail;go_loopw [8] (fun x wr=>∃k:Nat,k<=m/\x= .int .i64 k/\(∀j,j<k->q j=false)/\J k wr) (fun x _=>m-(intOf x).toNat)
 case atStart=>exact⟨0,by omega,rfl,fun j hj=>by omega,J0.o⟩
 case round=>
  obtain⟨k,hk,rfl,hno,hj⟩:=hrel;have gi:=GI.o;unfold Enters at gi;have NO:=q_ hno;have JK:=q_ hj;clear hno hj;by_cases hlt:k<m
  ·obtain⟨ad,x,u,v,rfl,hb,hx,hr,hc,hc2⟩:=(HL.o k wr JK.o).in2 hE hlt
   have C:=q_ (HQ.o k wr x u v hlt JK.o hx hr);clear hx hr;go_wp2_with fail;refine C.o.mono ?_;rintro e w2 ⟨rfl,py⟩;have J2:=q_ py;clear py;cases ht:q k
   ·have N2:=q_ (show∀j,j<k+1->q j=false from fun j hj=>by
     rcases Nat.lt_or_ge j k with h1|h1
     ·exact NO.o j h1
     ·have:j=k:=by omega
      subst this;exact ht)
    clear ht;go_wp2;go_roundw
    case rel=>exact⟨k+1,by omega,by go_num,N2.o,J2.o⟩
    case measure=>simp[intOf];omega
   ·have HT:=q_ (cP hlt ht NO.o)
    clear ht;go_wp2;go_ret;rw[HT.o];exact⟨rfl,_,J2.o⟩
  ·have HT:=q_ (dg (m:=m) (q:=q) (fun j hj=>NO.o j (by omega)))
   go_wp2;go_ret;rw[HT.o];exact⟨rfl,_,JK.o⟩
theorem Oi{α:Type}(E:aU α)(hE:E.n=1)(q:Nat->Bool)(J:Nat->World->Prop)(fi:FuncId)(ci:Array Value)(A:Option Addr)(m c:Nat)(xs:List α)(S:Nat->Prop)(w:World)(iQ:Enters Tryz.prog fi)(aI:bX A m c)(h0:J 0 w)(hl:∀k W,J k W->bn E W S A m xs)(hq:∀k W x u,k<m->J k W->xs[k]? =some x->E.R W S [u] x->Calls Tryz.prog fi (#[u]++ci) W fun e w'=>e= .returned (.bool (q k))/\J (k+1) w'):
 Calls Tryz.prog 138 #[.slice A m c,.func (.func fi) #[] ci] w fun e w'=>e= .returned (.int .i64 (bT m q))/\∃k,J k w':=by
 have hm:=aI.le;have GI:=q_ iQ;have HL:=q_ hl;have HQ:=q_ hq;have J0:=q_ h0;have gi:=fun args w=>iQ args w;clear iQ hl hq h0 aI;go_enter Tryz.func138,Tryz.ntmps138;go_wp2_with fail;go_loopw [8] (fun x wr=>∃k:Nat,k<=m/\x= .int .i64 k/\(∀j,j<k->q j=false)/\J k wr) (fun x _=>m-(intOf x).toNat)
 case atStart=>exact⟨0,by omega,rfl,fun j hj=>by omega,J0.o⟩
 case round=>
  obtain⟨k,hk,rfl,hno,hj⟩:=hrel;have gi:=GI.o;unfold Enters at gi;have NO:=q_ hno;have JK:=q_ hj;clear hno hj;by_cases hlt:k<m
  ·obtain⟨ad,x,u,rfl,hb,hx,hr,hc⟩:=(HL.o k wr JK.o).in1 hE hlt
   have C:=q_ (HQ.o k wr x u hlt JK.o hx hr);clear hx hr;go_wp2_with fail;refine C.o.mono ?_;rintro e w2 ⟨rfl,py⟩;have J2:=q_ py;clear py;cases ht:q k
   ·have N2:=q_ (show∀j,j<k+1->q j=false from fun j hj=>by
     rcases Nat.lt_or_ge j k with h1|h1
     ·exact NO.o j h1
     ·have:j=k:=by omega
      subst this;exact ht)
    clear ht;go_wp2;go_roundw
    case rel=>exact⟨k+1,by omega,by go_num,N2.o,J2.o⟩
    case measure=>simp[intOf];omega
   ·have HT:=q_ (cP hlt ht NO.o)
    clear ht;go_wp2;go_ret;rw[HT.o];exact⟨rfl,_,J2.o⟩
  ·have HT:=q_ (dg (m:=m) (q:=q) (fun j hj=>NO.o j (by omega)))
   go_wp2;go_ret;rw[HT.o];exact⟨rfl,_,JK.o⟩
theorem Oj{α:Type}(E:aU α)(hE:E.n=1)(q:Nat->Bool)(J:Nat->World->Prop)(fi:FuncId)(ci:Array Value)(A:Option Addr)(m c:Nat)(xs:List α)(S:Nat->Prop)(w:World)(iQ:Enters Tryz.prog fi)(aI:bX A m c)(h0:J 0 w)(hl:∀k W,J k W->bn E W S A m xs)(hq:∀k W x u,k<m->J k W->xs[k]? =some x->E.R W S [u] x->Calls Tryz.prog fi (#[u]++ci) W fun e w'=>e= .returned (.bool (q k))/\J (k+1) w'):
 Calls Tryz.prog 84 #[.slice A m c,.func (.func fi) #[] ci] w fun e w'=>e= .returned (.bool ((List.range m).any q))/\∃k,J k w':=by
 have K:=q_ (Oi E hE q J fi ci A m c xs S w iQ aI h0 hl hq);have HN:=q_ (ez (m:=m) (q:=q));clear hq hl h0 iQ aI;go_enter Tryz.func84,Tryz.ntmps84;go_wp2_with fail;refine K.o.mono ?_;rintro e w2 ⟨rfl,hj⟩;have HJ:=q_ hj;clear hj;go_wp2;go_ret;exact⟨by rw[HN.o];rfl,HJ.o⟩
theorem Ok{α:Type}(E:aU α)(hE:E.n=1)(q:Nat->Bool)(J:Nat->World->Prop)(fi:FuncId)(ci:Array Value)(A:Option Addr)(m c:Nat)(xs:List α)(S:Nat->Prop)(w:World)(iQ:Enters Tryz.prog fi)(aI:bX A m c)(h0:J 0 w)(hl:∀k W,J k W->bn E W S A m xs)(hq:∀k W x u,k<m->J k W->xs[k]? =some x->E.R W S [u] x->Calls Tryz.prog fi (#[u]++ci) W fun e w'=>e= .returned (.bool (q k))/\J (k+1) w'):
 Calls Tryz.prog 139 #[.slice A m c,.func (.func fi) #[] ci] w fun e w'=>e= .returned (.int .i64 (bT m q))/\∃k,J k w':=by
 have hm:=aI.le;have GI:=q_ iQ;have HL:=q_ hl;have HQ:=q_ hq;have J0:=q_ h0;have gi:=fun args w=>iQ args w;clear iQ hl hq h0 aI;go_enter Tryz.func139,Tryz.ntmps139;go_wp2_with fail;go_loopw [8] (fun x wr=>∃k:Nat,k<=m/\x= .int .i64 k/\(∀j,j<k->q j=false)/\J k wr) (fun x _=>m-(intOf x).toNat)
 case atStart=>exact⟨0,by omega,rfl,fun j hj=>by omega,J0.o⟩
 case round=>
  obtain⟨k,hk,rfl,hno,hj⟩:=hrel;have gi:=GI.o;unfold Enters at gi;have NO:=q_ hno;have JK:=q_ hj;clear hno hj;by_cases hlt:k<m
  ·obtain⟨ad,x,u,rfl,hb,hx,hr,hc⟩:=(HL.o k wr JK.o).in1 hE hlt
   have C:=q_ (HQ.o k wr x u hlt JK.o hx hr);clear hx hr;go_wp2_with fail;refine C.o.mono ?_;rintro e w2 ⟨rfl,py⟩;have J2:=q_ py;clear py;cases ht:q k
   ·have N2:=q_ (show∀j,j<k+1->q j=false from fun j hj=>by
     rcases Nat.lt_or_ge j k with h1|h1
     ·exact NO.o j h1
     ·have:j=k:=by omega
      subst this;exact ht)
    clear ht;go_wp2;go_roundw
    case rel=>exact⟨k+1,by omega,by go_num,N2.o,J2.o⟩
    case measure=>simp[intOf];omega
   ·have HT:=q_ (cP hlt ht NO.o)
    clear ht;go_wp2;go_ret;rw[HT.o];exact⟨rfl,_,J2.o⟩
  ·have HT:=q_ (dg (m:=m) (q:=q) (fun j hj=>NO.o j (by omega)))
   go_wp2;go_ret;rw[HT.o];exact⟨rfl,_,JK.o⟩
theorem Ol{α:Type}(E:aU α)(hE:E.n=1)(q:Nat->Bool)(J:Nat->World->Prop)(fi:FuncId)(ci:Array Value)(A:Option Addr)(m c:Nat)(xs:List α)(S:Nat->Prop)(w:World)(iQ:Enters Tryz.prog fi)(aI:bX A m c)(h0:J 0 w)(hl:∀k W,J k W->bn E W S A m xs)(hq:∀k W x u,k<m->J k W->xs[k]? =some x->E.R W S [u] x->Calls Tryz.prog fi (#[u]++ci) W fun e w'=>e= .returned (.bool (q k))/\J (k+1) w'):
 Calls Tryz.prog 86 #[.slice A m c,.func (.func fi) #[] ci] w fun e w'=>e= .returned (.bool ((List.range m).any q))/\∃k,J k w':=by
 have K:=q_ (Ok E hE q J fi ci A m c xs S w iQ aI h0 hl hq);have HN:=q_ (ez (m:=m) (q:=q));clear hq hl h0 iQ aI;go_enter Tryz.func86,Tryz.ntmps86;go_wp2_with fail;refine K.o.mono ?_;rintro e w2 ⟨rfl,hj⟩;have HJ:=q_ hj;clear hj;go_wp2;go_ret;exact⟨by rw[HN.o];rfl,HJ.o⟩
theorem Om{α:Type}(E:aU α)(hE:E.n=1)(q:Nat->Bool)(J:Nat->World->Prop)(fi:FuncId)(ci:Array Value)(A:Option Addr)(m c:Nat)(xs:List α)(S:Nat->Prop)(w:World)(iQ:Enters Tryz.prog fi)(aI:bX A m c)(h0:J 0 w)(hl:∀k W,J k W->bn E W S A m xs)(hq:∀k W x u,k<m->J k W->xs[k]? =some x->E.R W S [u] x->Calls Tryz.prog fi (#[u]++ci) W fun e w'=>e= .returned (.bool (q k))/\J (k+1) w'):
 Calls Tryz.prog 140 #[.slice A m c,.func (.func fi) #[] ci] w fun e w'=>e= .returned (.int .i64 (bT m q))/\∃k,J k w':=by
 have hm:=aI.le;have GI:=q_ iQ;have HL:=q_ hl;have HQ:=q_ hq;have J0:=q_ h0;have gi:=fun args w=>iQ args w;clear iQ hl hq h0 aI;go_enter Tryz.func140,Tryz.ntmps140;go_wp2_with fail;go_loopw [8] (fun x wr=>∃k:Nat,k<=m/\x= .int .i64 k/\(∀j,j<k->q j=false)/\J k wr) (fun x _=>m-(intOf x).toNat)
 case atStart=>exact⟨0,by omega,rfl,fun j hj=>by omega,J0.o⟩
 case round=>
  obtain⟨k,hk,rfl,hno,hj⟩:=hrel;have gi:=GI.o;unfold Enters at gi;have NO:=q_ hno;have JK:=q_ hj;clear hno hj;by_cases hlt:k<m
  ·obtain⟨ad,x,u,rfl,hb,hx,hr,hc⟩:=(HL.o k wr JK.o).in1 hE hlt
   have C:=q_ (HQ.o k wr x u hlt JK.o hx hr);clear hx hr;go_wp2_with fail;refine C.o.mono ?_;rintro e w2 ⟨rfl,py⟩;have J2:=q_ py;clear py;cases ht:q k
   ·have N2:=q_ (show∀j,j<k+1->q j=false from fun j hj=>by
     rcases Nat.lt_or_ge j k with h1|h1
     ·exact NO.o j h1
     ·have:j=k:=by omega
      subst this;exact ht)
    clear ht;go_wp2;go_roundw
    case rel=>exact⟨k+1,by omega,by go_num,N2.o,J2.o⟩
    case measure=>simp[intOf];omega
   ·have HT:=q_ (cP hlt ht NO.o)
    clear ht;go_wp2;go_ret;rw[HT.o];exact⟨rfl,_,J2.o⟩
  ·have HT:=q_ (dg (m:=m) (q:=q) (fun j hj=>NO.o j (by omega)))
   go_wp2;go_ret;rw[HT.o];exact⟨rfl,_,JK.o⟩
theorem On{α:Type}(E:aU α)(hE:E.n=1)(q:Nat->Bool)(J:Nat->World->Prop)(fi:FuncId)(ci:Array Value)(A:Option Addr)(m c:Nat)(xs:List α)(S:Nat->Prop)(w:World)(iQ:Enters Tryz.prog fi)(aI:bX A m c)(h0:J 0 w)(hl:∀k W,J k W->bn E W S A m xs)(hq:∀k W x u,k<m->J k W->xs[k]? =some x->E.R W S [u] x->Calls Tryz.prog fi (#[u]++ci) W fun e w'=>e= .returned (.bool (q k))/\J (k+1) w'):
 Calls Tryz.prog 88 #[.slice A m c,.func (.func fi) #[] ci] w fun e w'=>e= .returned (.bool ((List.range m).any q))/\∃k,J k w':=by
 have K:=q_ (Om E hE q J fi ci A m c xs S w iQ aI h0 hl hq);have HN:=q_ (ez (m:=m) (q:=q));clear hq hl h0 iQ aI;go_enter Tryz.func88,Tryz.ntmps88;go_wp2_with fail;refine K.o.mono ?_;rintro e w2 ⟨rfl,hj⟩;have HJ:=q_ hj;clear hj;go_wp2;go_ret;exact⟨by rw[HN.o];rfl,HJ.o⟩
theorem uS{α:Type}(E:aU α)(hE:E.n=2)(q:Nat->Bool)(J:Nat->World->Prop)(fi:FuncId)(ci:Array Value)(A:Option Addr)(m c:Nat)(xs:List α)(S:Nat->Prop)(w:World)(iQ:Enters Tryz.prog fi)(aI:bX A m c)(h0:J 0 w)(hl:∀k W,J k W->bn E W S A m xs)(hq:∀k W x u v,k<m->J k W->xs[k]? =some x->E.R W S [u,v] x->Calls Tryz.prog fi (#[.agg #[u,v]]++ci) W fun e w'=>e= .returned (.bool (q k))/\J (k+1) w'):
 Calls Tryz.prog 270 #[.slice A m c,.func (.func fi) #[] ci] w fun e w'=>e= .returned (.int .i64 (bT m q))/\∃k,J k w':=by
 have hm:=aI.le;have GI:=q_ iQ;have HL:=q_ hl;have HQ:=q_ hq;have J0:=q_ h0;have gi:=fun args w=>iQ args w;clear iQ hl hq h0 aI;go_enter Tryz.func270,Tryz.ntmps270;go_wp2_with fail;go_loopw [8] (fun x wr=>∃k:Nat,k<=m/\x= .int .i64 k/\(∀j,j<k->q j=false)/\J k wr) (fun x _=>m-(intOf x).toNat)
 case atStart=>exact⟨0,by omega,rfl,fun j hj=>by omega,J0.o⟩
 case round=>
  obtain⟨k,hk,rfl,hno,hj⟩:=hrel;have gi:=GI.o;unfold Enters at gi;have NO:=q_ hno;have JK:=q_ hj;clear hno hj;by_cases hlt:k<m
  ·obtain⟨ad,x,u,v,rfl,hb,hx,hr,hc,hc2⟩:=(HL.o k wr JK.o).in2 hE hlt
   have C:=q_ (HQ.o k wr x u v hlt JK.o hx hr);clear hx hr;go_wp2_with fail;refine C.o.mono ?_;rintro e w2 ⟨rfl,py⟩;have J2:=q_ py;clear py;cases ht:q k
   ·have N2:=q_ (show∀j,j<k+1->q j=false from fun j hj=>by
     rcases Nat.lt_or_ge j k with h1|h1
     ·exact NO.o j h1
     ·have:j=k:=by omega
      subst this;exact ht)
    clear ht;go_wp2;go_roundw
    case rel=>exact⟨k+1,by omega,by go_num,N2.o,J2.o⟩
    case measure=>simp[intOf];omega
   ·have HT:=q_ (cP hlt ht NO.o)
    clear ht;go_wp2;go_ret;rw[HT.o];exact⟨rfl,_,J2.o⟩
  ·have HT:=q_ (dg (m:=m) (q:=q) (fun j hj=>NO.o j (by omega)))
   go_wp2;go_ret;rw[HT.o];exact⟨rfl,_,JK.o⟩
theorem Gs{α:Type}(E:aU α)(hE:E.n=2)(q:Nat->Bool)(J:Nat->World->Prop)(fi:FuncId)(ci:Array Value)(A:Option Addr)(m c:Nat)(xs:List α)(S:Nat->Prop)(w:World)(iQ:Enters Tryz.prog fi)(aI:bX A m c)(h0:J 0 w)(hl:∀k W,J k W->bn E W S A m xs)(hq:∀k W x u v,k<m->J k W->xs[k]? =some x->E.R W S [u,v] x->Calls Tryz.prog fi (#[.agg #[u,v]]++ci) W fun e w'=>e= .returned (.bool (q k))/\J (k+1) w'):
 Calls Tryz.prog 257 #[.slice A m c,.func (.func fi) #[] ci] w fun e w'=>e= .returned (.bool ((List.range m).any q))/\∃k,J k w':=by
 have K:=q_ (uS E hE q J fi ci A m c xs S w iQ aI h0 hl hq);have HN:=q_ (ez (m:=m) (q:=q));clear hq hl h0 iQ aI;go_enter Tryz.func257,Tryz.ntmps257;go_wp2_with fail;refine K.o.mono ?_;rintro e w2 ⟨rfl,hj⟩;have HJ:=q_ hj;clear hj;go_wp2;go_ret;exact⟨by rw[HN.o];rfl,HJ.o⟩
def Da(c:List ByteArray):Bool:=decide (50<c.length)
def nS(r:List (List ByteArray)):Bool:=decide (50<r.length)||r.any Da
def lf(f:List (List (List ByteArray))):Bool:=decide (50<f.length)||f.any nS
theorem Tx(s:M.Seg):M.fits s=(decide (s.fields.length<=100)&& !s.fields.any lf):=by
 have h3:∀c:List ByteArray,(!Da c)=decide (c.length<=50):=fun c=>by
  unfold Da;rw[Bool.eq_iff_iff];simp
 have h2:∀r:List (List ByteArray),(!nS r)=(decide (r.length<=50)&&r.all fun c=>decide (c.length<=50)):=fun r=>by
  unfold nS;rw[Bool.not_or,List.not_any_eq_all_not];congr 1
  ·rw[Bool.eq_iff_iff];simp
  ·congr 1;funext c;exact h3 c
 have h1:∀f:List (List (List ByteArray)),(!lf f)=(decide (f.length<=50)&&f.all fun r=>decide (r.length<=50)&&r.all fun c=>decide (c.length<=50)):=fun f=>by
  unfold lf;rw[Bool.not_or,List.not_any_eq_all_not];congr 1
  ·rw[Bool.eq_iff_iff];simp
  ·congr 1;funext r;exact h2 r
 unfold M.fits;congr 1;rw[List.not_any_eq_all_not];congr 1;funext f;exact(h1 f).symm
def Zy(p:α->Bool)(xs:List α)(k:Nat):Bool:=match xs[k]?with|some x=>p x|none=>false
theorem pJ{p:α->Bool}{xs:List α}{k:Nat}(h:xs[k]? =some x):Zy p xs k=p x:=by unfold Zy;rw[h]
theorem Ap(p:α->Bool)(xs:List α):(List.range xs.length).any (Zy p xs)=xs.any p:=yc rfl (fun k x h=>pJ h)
theorem Xm{n m:Nat}:decide ((m:Int)<(n:Int))=decide (m<n):=by rw[Bool.eq_iff_iff];simp
theorem Gt:Enters Tryz.prog 89:=fun _ _=>rfl
theorem Gu:Enters Tryz.prog 87:=fun _ _=>rfl
theorem Gv:Enters Tryz.prog 85:=fun _ _=>rfl
theorem Db(A:Option Addr)(n c:Nat)(w:World):Calls Tryz.prog 89 #[.slice A n c] w fun e w'=>e= .returned (.bool (decide (50<n)))/\w=w':=by
 go_enter Tryz.func89,Tryz.ntmps89;go_wp2;go_ret;exact⟨by rw[<-Xm];rfl,rfl⟩
theorem Gw(A:Option Addr)(c:Nat)(r:List (List ByteArray))(S:Nat->Prop)(w:World)(aI:bX A r.length c)(hl:bn cJ w S A r.length r):
 Calls Tryz.prog 87 #[.slice A r.length c] w fun e w'=>e= .returned (.bool (nS r))/\w=w':=by
 by_cases h5:50<r.length
 ·have HR:=q_ (show nS r=true from by unfold nS;rw[decide_eq_true h5];rfl)
  have t1:decide ((50:Int)<(r.length:Int))=true:=by simp;omega
  clear h5 hl aI;generalize r.length=n at*;go_enter Tryz.func87,Tryz.ntmps87;go_wp2_with fail;go_ret;exact⟨by rw[HR.o];rfl,rfl⟩
 ·have HR:=q_ (show nS r=r.any Da from by unfold nS;rw[decide_eq_false h5];rfl)
  have t1:decide ((50:Int)<(r.length:Int))=false:=by simp;omega
  have KC:=q_ (On cJ rfl (Zy Da r) (fun _ W=>w=W) 89 #[] A r.length c r S w Gt aI rfl (fun _ W hW=>hW▸hl) (fun k W x u hk hW hx hr=>by
   obtain⟨A2,c2,rfl,_⟩:=aU.av (E:=bN) hr;rw[pJ hx];exact(Db A2 x.length c2 W).mono fun e w' ⟨he,hw⟩=>⟨by rw[he];rfl,hW.trans hw⟩))
  rw[Ap] at KC;clear h5 hl aI;generalize r.length=n at*;go_enter Tryz.func87,Tryz.ntmps87;go_wp2_with fail;refine KC.o.mono ?_;rintro e w2 ⟨rfl,_,rfl⟩;go_wp2;go_ret;exact⟨by rw[HR.o];rfl,rfl⟩
theorem Kv(A:Option Addr)(c:Nat)(f:List (List (List ByteArray)))(S:Nat->Prop)(w:World)(aI:bX A f.length c)(hl:bn jQ w S A f.length f):
 Calls Tryz.prog 85 #[.slice A f.length c] w fun e w'=>e= .returned (.bool (lf f))/\w=w':=by
 by_cases h5:50<f.length
 ·have HR:=q_ (show lf f=true from by unfold lf;rw[decide_eq_true h5];rfl)
  have t1:decide ((50:Int)<(f.length:Int))=true:=by simp;omega
  clear h5 hl aI;generalize f.length=n at*;go_enter Tryz.func85,Tryz.ntmps85;go_wp2_with fail;go_ret;exact⟨by rw[HR.o];rfl,rfl⟩
 ·have HR:=q_ (show lf f=f.any nS from by unfold lf;rw[decide_eq_false h5];rfl)
  have t1:decide ((50:Int)<(f.length:Int))=false:=by simp;omega
  have KC:=q_ (Ol jQ rfl (Zy nS f) (fun _ W=>w=W) 87 #[] A f.length c f S w Gu aI rfl (fun _ W hW=>hW▸hl) (fun k W x u hk hW hx hr=>by
   obtain⟨A2,c2,rfl,ok2,l2⟩:=aU.av (E:=cJ) hr;rw[pJ hx];exact(Gw A2 c2 x S W ok2 l2).mono fun e w' ⟨he,hw⟩=>⟨by rw[he],hW.trans hw⟩))
  rw[Ap] at KC;clear h5 hl aI;generalize f.length=n at*;go_enter Tryz.func85,Tryz.ntmps85;go_wp2_with fail;refine KC.o.mono ?_;rintro e w2 ⟨rfl,_,rfl⟩;go_wp2;go_ret;exact⟨by rw[HR.o];rfl,rfl⟩
theorem Oo(A:Option Addr)(c:Nat)(s:M.Seg)(S:Nat->Prop)(w:World)(hS:∀b,S b->b<w.heap.size)(aI:bX A s.fields.length c)(hl:bn cG w S A s.fields.length s.fields):
 Calls Tryz.prog 27 #[.agg #[.string s.name,.slice A s.fields.length c]] w fun e w'=>e= .returned (.bool (M.fits s))/\Below w.heap.size w w':=by
 rw[Tx];generalize s.name=nm at*;generalize s.fields=l at*;have HB:=q_ ((Below.refl w.heap.size w).alloc (n_) (.cells #[.string nm,.slice A l.length c] 48));by_cases h5:100<l.length
 ·have HR:=q_ (show(decide (l.length<=100)&& !l.any lf)=false from by rw[decide_eq_false (by omega)];rfl)
  have t1:decide ((100:Int)<(l.length:Int))=true:=by simp;omega
  clear h5 hl aI hS;generalize l.length=n at*;go_enter Tryz.func27,Tryz.ntmps27;go_wp2_with fail;go_ret;exact⟨by rw[HR.o];rfl,HB.o⟩
 ·have HR:=q_ (show(decide (l.length<=100)&& !l.any lf)= !l.any lf from by rw[decide_eq_true (by omega)];rfl)
  have t1:decide ((100:Int)<(l.length:Int))=false:=by simp;omega
  have hl2:=hl.below HB.o hS
  have KC:=q_ (Oj cG rfl (Zy lf l) (fun _ W=>w.alloc (.cells #[.string nm,.slice A l.length c] 48)=W) 85 #[] A l.length c l S (w.alloc (.cells #[.string nm,.slice A l.length c] 48)) Gv aI rfl (fun _ W hW=>hW▸hl2) (fun k W x u hk hW hx hr=>by
   obtain⟨A2,c2,rfl,ok2,l2⟩:=aU.av (E:=jQ) hr;rw[pJ hx];exact(Kv A2 c2 x S W ok2 l2).mono fun e w' ⟨he,hw⟩=>⟨by rw[he],hW.trans hw⟩))
  rw[Ap] at KC;clear h5 hl aI hl2 hS;generalize l.length=n at*;go_enter Tryz.func27,Tryz.ntmps27;go_wp2_with fail;refine KC.o.mono ?_;rintro e w2 ⟨rfl,_,rfl⟩;go_wp2;go_ret;exact⟨by rw[HR.o];rfl,HB.o⟩
end
section
open Go.RowKit Go.BigFrame
theorem jk(w:World):Calls Tryz.prog 80 #[] w fun e w'=>e= .returned (.agg #[.int .u8 124,.int .u8 94,.int .u8 126,.int .u8 92,.int .u8 38])/\Below w.heap.size w w':=by
 go_enter Tryz.func80,Tryz.ntmps80;go_wp2;exact bodyPost_ret (v:= .agg #[.int .u8 124,.int .u8 94,.int .u8 126,.int .u8 92,.int .u8 38]) (by simp[results,Tryz.results80,go_sem]) rfl ⟨rfl,(Below.refl _ _).alloc (n_) _⟩
theorem Kw(f c r e s:UInt8)(w:World):Calls Tryz.prog 81 #[.agg #[.int .u8 (f.toNat:Int),.int .u8 (c.toNat:Int),.int .u8 (r.toNat:Int),.int .u8 (e.toNat:Int),.int .u8 (s.toNat:Int)]] w fun x w'=>x= .returned (.agg #[.int .u8 (f.toNat:Int),.int .u8 (c.toNat:Int),.int .u8 (r.toNat:Int),.int .u8 (e.toNat:Int),.int .u8 (s.toNat:Int)])/\Below w.heap.size w w':=by
 go_enter Tryz.func81,Tryz.ntmps81;go_wp2;exact bodyPost_ret (v:= .agg #[.int .u8 (f.toNat:Int),.int .u8 (c.toNat:Int),.int .u8 (r.toNat:Int),.int .u8 (e.toNat:Int),.int .u8 (s.toNat:Int)]) (by simp[results,Tryz.results81,go_sem]) rfl ⟨rfl,((Below.refl _ _).alloc (n_) _).alloc (by simp) _⟩
theorem Ty(c:UInt8)(w:World):Calls Tryz.prog 82 #[.int .u8 (c.toNat:Int)] w fun e w'=>e= .returned (.bool (P.may c))/\w=w':=by
 have hb:=c.toNat_lt;have hn:P.may c=decide (33<=c.toNat/\c.toNat<=126/\¬(97<=c.toNat/\c.toNat<=122)/\¬(65<=c.toNat/\c.toNat<=90)/\¬(48<=c.toNat/\c.toNat<=57)):=rfl;generalize P.may c=m at*;generalize c.toNat=n at*;have HN:=q_ hn;clear hn;have fin:∀v:Bool,m=v->Calls Tryz.prog 82 #[.int .u8 (n:Int)] w (fun e w'=>e= .returned (.bool v)/\w=w')->Calls Tryz.prog 82 #[.int .u8 (n:Int)] w (fun e w'=>e= .returned (.bool m)/\w=w'):=fun v hv h=>hv▸h;rcases(by omega:n<33\/(33<=n/\n<48)\/(48<=n/\n<=57)\/(57<n/\n<65)\/(65<=n/\n<=90)\/(90<n/\n<97)\/(97<=n/\n<=122)\/(122<n/\n<=126)\/126<n) with h|⟨h,h'⟩|⟨h,h'⟩|⟨h,h'⟩|⟨h,h'⟩|⟨h,h'⟩|⟨h,h'⟩|⟨h,h'⟩|h
 ·refine fin false (by rw[HN.o];exact decide_eq_false (by omega)) ?_
  clear fin;go_enter Tryz.func82,Tryz.ntmps82;go_wp2
  all_goals (go_ret;exact⟨rfl,rfl⟩)
 ·refine fin true (by rw[HN.o];exact decide_eq_true (by omega)) ?_
  clear fin;go_enter Tryz.func82,Tryz.ntmps82;go_wp2
  all_goals (go_ret;exact⟨rfl,rfl⟩)
 ·refine fin false (by rw[HN.o];exact decide_eq_false (by omega)) ?_
  clear fin;go_enter Tryz.func82,Tryz.ntmps82;go_wp2
  all_goals (go_ret;exact⟨rfl,rfl⟩)
 ·refine fin true (by rw[HN.o];exact decide_eq_true (by omega)) ?_
  clear fin;go_enter Tryz.func82,Tryz.ntmps82;go_wp2
  all_goals (go_ret;exact⟨rfl,rfl⟩)
 ·refine fin false (by rw[HN.o];exact decide_eq_false (by omega)) ?_
  clear fin;go_enter Tryz.func82,Tryz.ntmps82;go_wp2
  all_goals (go_ret;exact⟨rfl,rfl⟩)
 ·refine fin true (by rw[HN.o];exact decide_eq_true (by omega)) ?_
  clear fin;go_enter Tryz.func82,Tryz.ntmps82;go_wp2
  all_goals (go_ret;exact⟨rfl,rfl⟩)
 ·refine fin false (by rw[HN.o];exact decide_eq_false (by omega)) ?_
  clear fin;go_enter Tryz.func82,Tryz.ntmps82;go_wp2
  all_goals (go_ret;exact⟨rfl,rfl⟩)
 ·refine fin true (by rw[HN.o];exact decide_eq_true (by omega)) ?_
  clear fin;go_enter Tryz.func82,Tryz.ntmps82;go_wp2
  all_goals (go_ret;exact⟨rfl,rfl⟩)
 ·refine fin false (by rw[HN.o];exact decide_eq_false (by omega)) ?_
  clear fin;go_enter Tryz.func82,Tryz.ntmps82;go_wp2
  all_goals (go_ret;exact⟨rfl,rfl⟩)
end
end Go.Proofs.YtpohlhkgbmdieaaGreatDoor
