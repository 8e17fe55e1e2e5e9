/- Part 35 of the proof. -/
import Derived.Test.YtnocnbklhikmnaaGreatDoorW24
import Derived.Test.YtnocnbklhikmnaaGreatDoorW28
set_option linter.unusedVariables false
set_option maxRecDepth 1000000
set_option maxHeartbeats 16000000
namespace Go.Proofs.YtnocnbklhikmnaaGreatDoor
variable{B:Nat}{w:World}
section
open Go.RowKit
theorem enters_59:Enters Tryz.prog 113:=fun _ _=>rfl
theorem enters_60:Enters Tryz.prog 114:=fun _ _=>rfl
theorem canonM1_any(A:Option Addr)(n c:Nat)(w:World):Calls Tryz.prog 114 #[.slice A n c] w fun e w'=>e= .returned (.bool (decide (n=0)))/\w=w':=by
 go_enter Tryz.func114,Tryz.ntmps114;go_wp2;go_ret;exact⟨by rw[show((n:Int)==0)=decide (n=0) from by rw[Bool.eq_iff_iff];simp];rfl,rfl⟩
theorem canonFs_any(A:Option Addr)(c:Nat)(l:List (List (List (List ByteArray))))(S:Nat->Prop)(w:World)(hok:SOk A l.length c)(hl:LAt EField w S A l.length l)(hS:∀b,S b->b<w.heap.size):
 Calls Tryz.prog 112 #[.slice A l.length c,.func (.func 113) #[] #[],.func (.func 114) #[] #[]] w (GivesE EFields w (M.trimEnd List.isEmpty (l.map M.canonF))):=
 trim_any trimI4 EField EField rfl rfl (fun W S u y h=>list_shape h) M.canonF List.isEmpty 113 114 #[] #[] A l.length c l S w hl hS hok enters_59 enters_60
  (fun W u x hb hr hx=>canonF_any u x S W hr (fun b h=>Nat.lt_of_lt_of_le (hS b h) hb.size))
  (fun W SW u y hb hr=>by
    obtain⟨A,c,rfl,hok,hl⟩:=Enc.list_inv (E:=ERep) hr;exact(canonM1_any A y.length c W).mono fun e w' ⟨he,hw⟩=>⟨by rw[he,isEmpty_len],hw▸Below.refl _ _⟩)
theorem info_seg:(Tryz.prog.info? 45).map (fun i=>(i.zero,i.size,i.bytes))=some (some (.agg #[.string ByteArray.empty,.slice none 0 0]),2,40):=by kernel_rfl
theorem canonM_any(d:M.Delims)(A:Option Addr)(c:Nat)(l:List M.Seg)(S:Nat->Prop)(w:World)(hok:SOk A l.length c)(hl:LAt ESeg w S A l.length l)(hS:∀b,S b->b<w.heap.size):
 Calls Tryz.prog 53 #[.agg #[.int .u8 (d.f.toNat:Int),.int .u8 (d.c.toNat:Int),.int .u8 (d.r.toNat:Int),.int .u8 (d.e.toNat:Int),.int .u8 (d.s.toNat:Int),.slice A l.length c]] w (GivesMsg w (M.canon ⟨d,l⟩)):=by
 have hm:=hok.le;obtain⟨it,hit,hz,hs1,hb1⟩:=info_parts info_seg;have H:=q_ hl;have HS:=q_ hS;have J1:=q_ hit;have J2:=q_ hz;have J3:=q_ hs1;have J4:=q_ hb1;generalize hmm:l.length=m at*;have HM:=q_ hmm
 have B0:=q_ (show Below w.heap.size w (((w.alloc (.cells #[.int .u8 (d.f.toNat:Int),.int .u8 (d.c.toNat:Int),.int .u8 (d.r.toNat:Int),.int .u8 (d.e.toNat:Int),.int .u8 (d.s.toNat:Int),.slice A m c] 26)).alloc (.cells #[.int .u8 0,.int .u8 0,.int .u8 0,.int .u8 0,.int .u8 0,.slice none 0 0] 26)).alloc (.cells #[.int .u8 (d.f.toNat:Int),.int .u8 (d.c.toNat:Int),.int .u8 (d.r.toNat:Int),.int .u8 (d.e.toNat:Int),.int .u8 (d.s.toNat:Int),.slice none 0 0] 26)) from
  (((Below.refl w.heap.size w).alloc (n_) _).alloc (by simp) _).alloc (by simp;omega) _)
 have k2:=(Blk.new (w.alloc (.cells #[.int .u8 (d.f.toNat:Int),.int .u8 (d.c.toNat:Int),.int .u8 (d.r.toNat:Int),.int .u8 (d.e.toNat:Int),.int .u8 (d.s.toNat:Int),.slice A m c] 26)) 26 #[.int .u8 0,.int .u8 0,.int .u8 0,.int .u8 0,.int .u8 0,.slice none 0 0]).alloc (.cells #[.int .u8 (d.f.toNat:Int),.int .u8 (d.c.toNat:Int),.int .u8 (d.r.toNat:Int),.int .u8 (d.e.toNat:Int),.int .u8 (d.s.toNat:Int),.slice none 0 0] 26);have k3:=Blk.new ((w.alloc (.cells #[.int .u8 (d.f.toNat:Int),.int .u8 (d.c.toNat:Int),.int .u8 (d.r.toNat:Int),.int .u8 (d.e.toNat:Int),.int .u8 (d.s.toNat:Int),.slice A m c] 26)).alloc (.cells #[.int .u8 0,.int .u8 0,.int .u8 0,.int .u8 0,.int .u8 0,.slice none 0 0] 26)) 26 #[.int .u8 (d.f.toNat:Int),.int .u8 (d.c.toNat:Int),.int .u8 (d.r.toNat:Int),.int .u8 (d.e.toNat:Int),.int .u8 (d.s.toNat:Int),.slice none 0 0];simp only[World.size_alloc] at k2 k3;have K2:=q_ k2;have K3:=q_ k3
 have Z0:=q_ (show w.heap.size+3<=(((w.alloc (.cells #[.int .u8 (d.f.toNat:Int),.int .u8 (d.c.toNat:Int),.int .u8 (d.r.toNat:Int),.int .u8 (d.e.toNat:Int),.int .u8 (d.s.toNat:Int),.slice A m c] 26)).alloc (.cells #[.int .u8 0,.int .u8 0,.int .u8 0,.int .u8 0,.int .u8 0,.slice none 0 0] 26)).alloc (.cells #[.int .u8 (d.f.toNat:Int),.int .u8 (d.c.toNat:Int),.int .u8 (d.r.toNat:Int),.int .u8 (d.e.toNat:Int),.int .u8 (d.s.toNat:Int),.slice none 0 0] 26)).heap.size from by simp);clear hl hS hok hit hz hs1 hb1 hmm k2 k3;go_enter Tryz.func53,Tryz.ntmps53;go_wp2_with fail
 go_loopw [12] (fun x wr=>∃(k:Nat) (S':Nat->Prop) (v:Value),k<=m/\x= .int .i64 k/\OwnE ESeg 45 wr (w.heap.size+3) S' v ((l.take k).map M.canonS)/\(∀b,S' b->w.heap.size+3<=b)/\
  Blk wr (w.heap.size+1) 26 #[.int .u8 0,.int .u8 0,.int .u8 0,.int .u8 0,.int .u8 0,.slice none 0 0]/\Blk wr (w.heap.size+1+1) 26 #[.int .u8 (d.f.toNat:Int),.int .u8 (d.c.toNat:Int),.int .u8 (d.r.toNat:Int),.int .u8 (d.e.toNat:Int),.int .u8 (d.s.toNat:Int),v]/\Below w.heap.size w wr/\w.heap.size+3<=wr.heap.size) (fun x _=>m-(intOf x).toNat)
 case atStart=>exact⟨0,fun _=>False,_,by omega,rfl,OwnE.nil (fun b hb=>hb.elim),(fun b hb=>hb.elim),K2.o,K3.o,B0.o,Z0.o⟩
 case round=>
  obtain⟨k,S',v,hk,rfl,hown,hge,k2,k3,hbel,hz3⟩:=hrel;have OW:=q_ hown;have SG:=q_ hge;have Y2:=q_ k2;have Y3:=q_ k3;have BW:=q_ hbel;clear hown hge k2 k3 hbel;by_cases hlt:k<m
  ·obtain⟨ad,s,cs,rfl,hb,hx,hr,hc⟩:=(H.o.below_ BW.o HS.o).in_ hlt
   obtain⟨A1,c1,rfl,hn1,hok1,hf1⟩:=ESeg.inv hr;have e0:=hc 0 _ rfl;have e1:=hc 1 _ rfl;rw[show ESeg.n=2 from rfl] at e0 e1;rw[Nat.add_zero] at e0;rw[cell_add 1 (by omega)] at e1;have HX:=q_ hx;have F1:=q_ hf1;have N1:=q_ hok1;clear hx hf1 hok1 hr hc;go_wp2_with fail;have XS:=q_ (Blk.new wr 45 #[.string s.name,.slice A1 s.fields.length c1]);have X2:=q_ (Y2.o.alloc (.cells #[.string s.name,.slice A1 s.fields.length c1] 45));have X3:=q_ (Y3.o.alloc (.cells #[.string s.name,.slice A1 s.fields.length c1] 45));have XB:=q_ ((Below.refl wr.heap.size wr).alloc (n_) (.cells #[.string s.name,.slice A1 s.fields.length c1] 45));have F2:=q_ (F1.o.below XB.o (fun b h=>Nat.lt_of_lt_of_le (HS.o b h) BW.o.size));have O2:=q_ (OW.o.below XB.o);have HT:=q_ (show(l.take (k+1)).map M.canonS=(l.take k).map M.canonS++[M.canonS s] from by rw[List.take_add_one,HX.o];simp);have HLn:=q_ (show((l.take k).map M.canonS).length<=m from by rw[List.length_map,List.length_take];have:=HM.o;omega);have hz5:(wr.alloc (.cells #[.string s.name,.slice A1 s.fields.length c1] 45)).heap.size=wr.heap.size+1:=by simp
   have Z5:=q_ hz5;have B5:=q_ (BW.o.trans (XB.o.mono BW.o.size));clear hz5;generalize hW5:wr.alloc (.cells #[.string s.name,.slice A1 s.fields.length c1] 45)=W5 at*;clear hW5;generalize (l.take k).map M.canonS=acc at*;have HC:=q_ (fun W (hW:Below W5.heap.size W5 W)=>canonFs_any A1 c1 s.fields S W N1.o (F2.o.below_ hW (fun b h=>by have:=HS.o b h;have:=BW.o.size;have:=Z5.o;omega)) (fun b h=>by have:=HS.o b h;have:=BW.o.size;have:=Z5.o;have:=hW.size;omega))
   refine wp_region_free 9 [] Stays (fun
    |6=>some fun u w'=>∃A2 n2 c2 S2,u= .slice A2 n2 c2/\(∀b,S2 b->W5.heap.size<=b/\b<w'.heap.size)/\EFields.R w' S2 [.slice A2 n2 c2] (M.canonS s).fields
    |7=>some fun u w'=>∃A2 n2 c2 S2,u= .agg #[.string s.name,.slice A2 n2 c2]/\(∀b,S2 b->W5.heap.size<=b/\b<w'.heap.size)/\EFields.R w' S2 [.slice A2 n2 c2] (M.canonS s).fields
    |8=>some fun u w'=>∃A2 n2 c2 S2 g,u= .slice (some ⟨g,0,none⟩) 1 1/\Blk w' g 45 #[.string s.name,.slice A2 n2 c2]/\(∀b,S2 b->W5.heap.size<=b/\b<w'.heap.size)/\EFields.R w' S2 [.slice A2 n2 c2] (M.canonS s).fields
    |_=>none) (by kernel_rfl) (by kernel_rfl) Stays.refl (by simp) (Stays.draw _) Stays.trans ?_ ?_
   ·intro j φ u x y hB hp hxy
    split at hB<;>cases hB
    ·obtain⟨A2,n2,c2,S2,e,hs,hr⟩:=hp
     exact⟨A2,n2,c2,S2,e,fun b h=>⟨(hs b h).1,Nat.lt_of_lt_of_le (hs b h).2 hxy.size⟩,Enc.below hr hxy (fun b h=>(hs b h).2)⟩
    ·obtain⟨A2,n2,c2,S2,e,hs,hr⟩:=hp
     exact⟨A2,n2,c2,S2,e,fun b h=>⟨(hs b h).1,Nat.lt_of_lt_of_le (hs b h).2 hxy.size⟩,Enc.below hr hxy (fun b h=>(hs b h).2)⟩
    ·obtain⟨A2,n2,c2,S2,g,e,hg,hs,hr⟩:=hp
     exact⟨A2,n2,c2,S2,g,e,hg.stays hxy,fun b h=>⟨(hs b h).1,Nat.lt_of_lt_of_le (hs b h).2 hxy.size⟩,Enc.below hr hxy (fun b h=>(hs b h).2)⟩
   ·apply wpFree_pure rfl rfl
    ·intro vs wx hk K hK
     go_simp;exact hK _ (Stays.refl _)
    intro KK hKK;go_simp;refine hKK _ ?_;clear hKK KK
    iterate 5
     apply wpFree_pure rfl rfl
     ·intro vs wx hk K hK
      first
      |have c0:=fun i=>(X3.o.stays hk.1).cell i
       go_simp;exact hK _ (Stays.refl _)
      |have c0:=fun i=>(XS.o.stays hk.1).cell i
       go_simp;exact hK _ (Stays.refl _)
     intro KK hKK;go_simp;refine hKK _ ?_;clear hKK KK
    refine wpFree_fact rfl ?_ ?_
    ·intro vs wx hk K hK
     have C:=HC.o _ hk.1;go_simp;exact C.mono fun x w' ⟨u,hx,hr,hb'⟩=>by obtain⟨A2,n2,c2,rfl⟩:=list_shape (E:=EField) hr;exact⟨_,hx,hK _ _ hb' ⟨A2,n2,c2,_,rfl,fun b h=>⟨Nat.le_trans hk.1.size h.1,h.2⟩,hr⟩⟩
    intro KK hKK;go_simp;refine hKK _ ?_;clear hKK KK;refine wpFree_fact rfl ?_ ?_
    ·intro vs wx hk K hK
     obtain⟨A2,n2,c2,S2,e,hs,hr⟩:=hk.2 6 _ rfl (by kernel_rfl);go_simp;exact hK _ _ (Stays.refl _) ⟨A2,n2,c2,S2,rfl,hs,hr⟩
    intro KK hKK;go_simp;refine hKK _ ?_;clear hKK KK;refine wpFree_fact rfl ?_ ?_
    ·intro vs wx hk K hK
     obtain⟨A2,n2,c2,S2,e,hs,hr⟩:=hk.2 7 _ rfl (by kernel_rfl);go_simp;exact hK _ _ (Stays.alloc _ _) ⟨A2,n2,c2,S2,_,rfl,Blk.new _ _ _,fun b h=>⟨(hs b h).1,Nat.lt_of_lt_of_le (hs b h).2 (by simp)⟩,Enc.below hr (Stays.alloc _ _) (fun b h=>(hs b h).2)⟩
    intro KK hKK;go_simp;refine hKK _ ?_;clear hKK KK;refine wpFree_nil ?_;intro vs w4 hs4 hv4;obtain⟨A2,n2,c2,S2,g,e,hg,hs,hr⟩:=hv4 8 _ (by omega) rfl;intro KK hKK;simp only[List.drop_succ_cons];rw[e];have X4:=q_ (X3.o.stays hs4);have Y4:=q_ (X2.o.stays hs4);have B4:=q_ (bt' B5.o hs4);have Z4:=q_ (show w.heap.size+3<=W5.heap.size from by rw[Z5.o];omega);have ZZ4:=q_ (Nat.le_trans Z4.o hs4.size);have O4:=q_ ((O2.o.below hs4).widen (S2:=S2) (fun b h=>(hs b h).2) (fun gg hgg h=>by have:=(O2.o.own_lt hgg).2;have:=(hs gg h).1;omega));have NW:=q_ (news_blk (E:=ESeg) (S:=fun b=>S' b\/S2 b) (x:=M.canonS s) hg ⟨[.string s.name],[.slice A2 n2 c2],rfl,⟨rfl,hn1⟩,Enc.wide hr (fun b h=> .inr h)⟩);have SG4:=q_ (show∀b,(S' b\/S2 b)->w.heap.size+3<=b from fun b h=>h.elim (SG.o b) (fun h=>by have:=(hs b h).1;have:=Z4.o;omega));have OB:=q_ (show∀g',v.ownBlock=some g'->w.heap.size+3<=g' from fun g' h=>(O2.o.own_lt h).1);clear hg hs hr e hv4 hs4
    refine wpList_append_E rfl (.tmp 17) (.tmp 24) _ rfl it (.agg #[.string ByteArray.empty,.slice none 0 0]) 40 Tryz.underlying24 J1.o J2.o J3.o J4.o rfl rfl O4.o ⟨g,0,none⟩ 1 1 [M.canonS s] rfl rfl NW.o (by have:=HLn.o;omega) (by omega) ZZ4.o ?_;intro o4 w5 hown5 hb5 hg5 _;obtain⟨A5,c5,rfl⟩:=hown5.shape;have O5:=q_ hown5;have X5:=q_ (X4.o.grown hg5 (fun e=>by have:=OB.o _ e.symm;omega));have Y5:=q_ (Y4.o.grown hg5 (fun e=>by have:=OB.o _ e.symm;omega));have B5':=q_ hb5;clear hown5 hb5 hg5;have c1:=fun i=>X5.o.cell i;have f1:=fun i=>X5.o.frozen i;go_wp2;go_roundw
    case rel=>
     have hk5:=X5.o.set_ 5 (.slice A5 (acc.length+1) c5);have o5:=O5.o.grownAt (grown_set w5 (w.heap.size+1+1) 5 (.slice A5 (acc.length+1) c5)) (fun e=>by have:=(O5.o.own_lt e).1;omega) (fun h=>by have:=SG4.o _ h;omega);exact⟨k+1,_,.slice A5 (acc.length+1) c5,by omega,by go_num,by rw[HT.o];simpa using o5,SG4.o,Y5.o.far (by simp) _,hk5,below_gr (B4.o.trans (B5'.o.mono (by omega))) (grown_set _ _ _ _) (by omega),by have:=ZZ4.o;have:=B5'.o.size;simp;omega⟩
    case measure=>simp[intOf];omega
  ·have hkm:k=m:=by omega
   subst hkm;have HT:=q_ (show(l.take k).map M.canonS=l.map M.canonS from by rw[List.take_of_length_le (by have:=HM.o;omega)]);have o1:=OW.o;rw[HT.o] at o1;have hll:(l.map M.canonS).length=k:=by rw[List.length_map];exact HM.o
   obtain⟨A5,c5,hv5⟩:=o1.shape;rw[hll] at hv5;subst hv5;have O1:=q_ o1;have HL:=q_ hll;clear o1 hll hlt;have c3:=fun i=>Y3.o.cell i;go_wp2_with (refine wpList_store_blk (cs':=#[.int .u8 (d.f.toNat:Int),.int .u8 (d.c.toNat:Int),.int .u8 (d.r.toNat:Int),.int .u8 (d.e.toNat:Int),.int .u8 (d.s.toNat:Int),.slice A5 k c5]) rfl 26 (.tmp 2) (.tmp 28) rfl (w.heap.size+1) rfl rfl Y2.o rfl (by kernel_rfl) (by simp[Value.oneCell']) ?_;intro w6 k6 hg6;have K6:=q_ k6;have G6:=q_ hg6;clear k6 hg6);have c6:=fun i=>K6.o.cell i;have o6:=O1.o.grownAt G6.o (fun e=>by have:=(O1.o.own_lt e).1;omega) (fun h=>by have:=SG.o _ h;omega);have hb6:=below_gr BW.o G6.o (by omega);have hr6:=o6.reads (S':=New w w6) (fun b h=>⟨by have:=SG.o b h;omega,o6.there b h⟩) (fun g hg=>⟨by have:=(o6.own_lt hg).1;omega,(o6.own_lt hg).2⟩) (by rw[HL.o];exact hm);obtain⟨A6,c7,e6,hok6,hl6⟩:=Enc.list_inv (E:=ESeg) hr6;refine bodyPost_ret (v:= .agg #[.int .u8 (d.f.toNat:Int),.int .u8 (d.c.toNat:Int),.int .u8 (d.r.toNat:Int),.int .u8 (d.e.toNat:Int),.int .u8 (d.s.toNat:Int),.slice A5 k c5]) (by simp[results,Tryz.results53,go_sem,c6]) rfl ⟨A6,c7,?_,hok6,hl6,hb6⟩;rw[e6];rfl
end
section
open Go Go.RowKit Go.BigFrame
theorem LAt.tail_{w:World}{S:Nat->Prop}{gb o m:Nat}{t:Ad.Tok}{r:List Ad.Tok}(h:LAt tokE w S (some ⟨gb,o,none⟩) m (t::r)):LAt tokE w S (some ⟨gb,o+11,none⟩) (m-1) r:=by
 obtain⟨hl,h⟩:=h;simp at hl;refine⟨by omega,fun hm=> ?_⟩;obtain⟨ad,e,hS,hx⟩:=h (by omega);cases e;refine⟨_,rfl,hS,fun j x hj=> ?_⟩;obtain⟨cs,h1,h2⟩:=hx (j+1) x (by simpa using hj);refine⟨cs,h1,fun i u hu=> ?_⟩;have h3:=h2 i u hu;rw[Addr.add_mid] at h3⊢;rw[<-h3];congr 2;show o+11+(j*11+i)=o+((j+1)*11+i);omega
theorem LAt.head_{w:World}{S:Nat->Prop}{gb o m:Nat}{t:Ad.Tok}{r:List Ad.Tok}(h:LAt tokE w S (some ⟨gb,o,none⟩) m (t::r)):∃pt pa pb pc pd pe l c,(t.kind=4->[.string pt,.int .i64 pa,.int .i64 pb,.int .i64 pc,.int .i64 pd,.int .i64 pe]=pathCs t.text)/\
 w.cell? ⟨gb,o,none⟩=some (.int .i64 t.kind)/\w.cell? ⟨gb,o+1,none⟩=some (.string ⟨t.text.toArray⟩)/\w.cell? ⟨gb,o+2,none⟩=some (.int .i64 t.num)/\w.cell? ⟨gb,o+3,none⟩=some (.string pt)/\w.cell? ⟨gb,o+4,none⟩=some (.int .i64 pa)/\w.cell? ⟨gb,o+5,none⟩=some (.int .i64 pb)/\w.cell? ⟨gb,o+6,none⟩=some (.int .i64 pc)/\w.cell? ⟨gb,o+7,none⟩=some (.int .i64 pd)/\w.cell? ⟨gb,o+8,none⟩=some (.int .i64 pe)/\w.cell? ⟨gb,o+9,none⟩=some (.int .i64 l)/\w.cell? ⟨gb,o+10,none⟩=some (.int .i64 c)/\w.rangeAt gb o [.int .i64 t.kind,.string ⟨t.text.toArray⟩,.int .i64 t.num,.string pt,.int .i64 pa,.int .i64 pb,.int .i64 pc,.int .i64 pd,.int .i64 pe,.int .i64 l,.int .i64 c]:=by
 obtain⟨hl,h⟩:=h;simp at hl;obtain⟨ad,e,hS,hx⟩:=h (by omega);cases e;obtain⟨cs,⟨p,l,c,⟨⟨pt,pa,pb,pc,pd,pe,rfl⟩,hp⟩,rfl⟩,h2⟩:=hx 0 t rfl
 have h3:∀i u,([.int .i64 t.kind,.string ⟨t.text.toArray⟩,.int .i64 t.num,.string pt,.int .i64 pa,.int .i64 pb,.int .i64 pc,.int .i64 pd,.int .i64 pe,.int .i64 l,.int .i64 c]:List Value)[i]? =some u->w.cell? ⟨gb,o+i,none⟩=some u:=fun i u hu=>by
  have h4:=h2 i u hu;rw[Addr.add_mid] at h4;rw[<-h4];congr 2;show o+i=o+(0*11+i);omega
 exact⟨pt,pa,pb,pc,pd,pe,l,c,hp,h3 0 _ rfl,h3 1 _ rfl,h3 2 _ rfl,h3 3 _ rfl,h3 4 _ rfl,h3 5 _ rfl,h3 6 _ rfl,h3 7 _ rfl,h3 8 _ rfl,h3 9 _ rfl,h3 10 _ rfl,h3⟩
structure Rd(w:World)(g gb:Nat)(ws:List Ps.Tk):Prop where
 at_:∃o m c,Blk w g 133 #[.slice (some ⟨gb,o,none⟩) m c]/\LAt tokE w (fun b=>b=gb) (some ⟨gb,o,none⟩) m ws/\m<=c/\c<=maxLen/\m<=100000
 ne:gb≠g
 lt:gb<w.heap.size
 ends:Ps.Ends ws
 ok:∀t∈ws,Ps.TokOk t
section
variable {w w':World} {g gb:Nat} {ws:List Ps.Tk}
theorem Rd.glt(h:Rd w g gb ws):g<w.heap.size:=by
 obtain⟨o,m,c,h1,-⟩:=h.at_;exact h1.lt
theorem Rd.below(h:Rd w g gb ws)(hb:Below w.heap.size w w'):Rd w' g gb ws:=by
 obtain⟨o,m,c,h1,h2,h3⟩:=h.at_;exact⟨⟨o,m,c,h1.below hb h1.lt,h2.below hb (fun b e=>by rw[e];exact h.lt),h3⟩,h.ne,Nat.lt_of_lt_of_le h.lt hb.size,h.ends,h.ok⟩
theorem Rd.len(h:Rd w g gb ws):ws.length<=100000:=by
 obtain⟨o,m,c,h1,h2,h3⟩:=h.at_;have:=h2.1;omega
end
theorem ris_any(w:World)(g gb:Nat)(t:Ps.Tk)(r:List Ps.Tk)(s:ByteArray)(h:Rd w g gb (t::r)):
 Calls Tryz.prog 220 #[.pointer (some ⟨g,0,none⟩),.string s] w fun e w'=>e= .returned (.bool (Ps.isW t s.data.toList))/\Below w.heap.size w w':=by
 obtain⟨o,m,c,h1,h2,h3,h4,h5⟩:=h.at_;have hm:=h2.1;simp at hm;obtain⟨pt,pa,pb,pc,pd,pe,l,cc,hp,e0,e1,e2,e3,e4,e5,e6,e7,e8,e9,e10,hrg⟩:=h2.head_;have HRG:=q_ hrg;have c0:w.cell? ⟨g,0,none⟩=some (.slice (some ⟨gb,o,none⟩) m c):=h1.cell 0;have hm1:0<m:=by omega
 have hB:=q_ ((Below.refl _ w).alloc (n_) (.cells #[.int .i64 t.kind,.string ⟨t.text.toArray⟩,.int .i64 t.num,.string pt,.int .i64 pa,.int .i64 pb,.int .i64 pc,.int .i64 pd,.int .i64 pe,.int .i64 l,.int .i64 cc] 137))
 have HX:=q_ (show∀b1 b2:Bool,(t.kind==1)=b1->(t.kind==5)=b2->Ps.isW t s.data.toList=((b1||b2)&&(t.text==s.toList)) from fun b1 b2 g1 g2=>by
  rw[<-g1,<-g2,ByteArray.toList_eq];rfl)
 clear h1 h2 h hp hrg e0 e1 e2 e3 e4 e5 e6 e7 e8 e9 e10;go_enter Tryz.func220,Tryz.ntmps220;obtain⟨b1,hb1⟩:∃b,(t.kind==1)=b:=⟨_,rfl⟩
 obtain⟨b2,hb2⟩:∃b,(t.kind==5)=b:=⟨_,rfl⟩
 have HR:=q_ (HX.o b1 b2 hb1 hb2);cases b1<;>cases b2
 all_goals
  go_wp2_with (refine wpList_load_mid rfl 137 (.tmp 10) rfl gb o rfl _ _ HRG.o Tryz.underlying137 rfl (by kernel_rfl) ?_);go_ret;exact⟨by rw[HR.o];rfl,hB.o⟩
def panB(l c:Int):Ending:= .panicked [{v:= .iface 130 (.agg #[.int .i64 l,.int .i64 c]),recovered:=false}]
section
variable {w w':World} {g gb:Nat} {t:Ps.Tk} {r ws:List Ps.Tk}
theorem Rd.next(h:Rd w g gb (t::r))(hk:t.kind≠0){o m c:Nat}(hl:LAt tokE w (fun b=>b=gb) (some ⟨gb,o,none⟩) m (t::r))(hmc:m<=c)(hcm:c<=maxLen)(hm:m<=100000)(hb:Blk w' g 133 #[.slice (some ⟨gb,o+11,none⟩) (m-1) (c-1)])(ho:OnlyG g w w'):Rd w' g gb r:=
 ⟨⟨o+11,m-1,c-1,hb,ho.lat hl.tail_ (fun b e=>by rw[e];exact⟨h.lt,h.ne⟩),by omega,by omega,by omega⟩,h.ne,Nat.lt_of_lt_of_le h.lt ho.size,h.ends.tail hk,fun x hx=>h.ok x (List.mem_cons_of_mem _ hx)⟩
theorem Rd.two(h:Rd w g gb (t::r))(hk:t.kind≠0):2<=(t::r).length:=by
 have:=(h.ends.tail hk).ne;simp;omega
end
theorem rtake_any(w:World)(g gb:Nat)(t:Ps.Tk)(r:List Ps.Tk)(s:ByteArray)(h:Rd w g gb (t::r)):
 Calls Tryz.prog 128 #[.pointer (some ⟨g,0,none⟩),.string s] w fun e w'=>(Ps.isW t s.data.toList=false/\e= .returned (.bool false)/\Below w.heap.size w w'/\Rd w' g gb (t::r))\/(Ps.isW t s.data.toList=true/\e= .returned (.bool true)/\OnlyG g w w'/\Rd w' g gb r):=by
 have K:=q_ (ris_any w g gb t r s h);have H:=q_ h;clear h;go_enter Tryz.func128,Tryz.ntmps128;cases hw:Ps.isW t s.data.toList with
 |false=>
  rw[hw] at K;go_wp2_with fail;refine K.o.mono ?_;rintro e w1 ⟨rfl,hb⟩;have R1:=q_ (H.o.below hb);have B1:=q_ hb;clear hb;go_wp2_with fail;go_ret;exact⟨rfl,B1.o,R1.o⟩
 |true=>
  rw[hw] at K;have hk:=Ps.isW_ne hw;have h2:=H.o.two hk;go_wp2_with fail;refine K.o.mono ?_;rintro e w1 ⟨rfl,hb⟩;have hr:=H.o.below hb;obtain⟨o,m,c,h1,hl,hmc,hcm,hm⟩:=hr.at_;have hlen:=hl.1;have hm2:2<=m:=by omega
  have hc1:¬c=1:=by omega
  have R1:=q_ hr;have L1:=q_ hl;have GB:=q_ h1;have B1:=q_ hb;have KK:=q_ hk;have c0:w1.cell? ⟨g,0,none⟩=some (.slice (some ⟨gb,o,none⟩) m c):=h1.cell 0;have f0:=h1.frozen 0;clear hb hr hl h1 hk hlen h2;go_wp2_with fail;go_ret;have ho:OnlyG g w1 (w1.setCell ⟨g,0,none⟩ (.slice (some ⟨gb,o+11,none⟩) (m-1) (c-1))):=(Turns.refl _ _).grown (fun _=>rfl) (grown_set _ _ _ _);exact⟨rfl,(Turns.of B1.o:OnlyG g w w1).trans ho (fun _ _ h=>h),R1.o.next KK.o L1.o hmc hcm hm (GB.o.one_set _) ho⟩
theorem rfail_any(w:World)(g gb:Nat)(t:Ps.Tk)(r:List Ps.Tk)(h:Rd w g gb (t::r)):
 Calls Tryz.prog 76 #[.pointer (some ⟨g,0,none⟩)] w fun e w'=>(∃l c,e=panB l c)/\Below w.heap.size w w':=by
 obtain⟨o,m,c,h1,h2,h3,h4,h5⟩:=h.at_;have hm:=h2.1;simp at hm;have hm1:0<m:=by omega
 obtain⟨pt,pa,pb,pc,pd,pe,l,cc,hp,e0,e1,e2,e3,e4,e5,e6,e7,e8,e9,e10,hrg⟩:=h2.head_;have HB:=q_ h1;have HG:=q_ (show gb<w.heap.size from h.lt);have E9:=q_ e9;have E10:=q_ e10;clear h h1 h2 hp hrg e0 e1 e2 e3 e4 e5 e6 e7 e8 e9 e10;go_enter Tryz.func76,Tryz.ntmps76;go_wp2_with fail;refine wp_region_genP (KP:=fun _ _=>False) 16 [] (fun _ _ W=>Below w.heap.size w W) (by kernel_rfl) (by kernel_rfl) ⟨rfl,rfl,rfl,n_,fun _ _=>rfl⟩ (fun ch a2 w5 hd hk=>hk.elim) ?_
 iterate 16
  apply wpGenP_pure rfl
  ·intro L vs wx hI hR hL K hK
   first
   |have c0:=fun i=>(HB.o.below hI HB.o.lt).cell i
    go_simp;exact hK _ hI
   |have c9:=(hI.cell (p:=⟨gb,o+9,none⟩) HG.o).trans E9.o
    go_simp;exact hK _ hI
   |have c10:=(hI.cell (p:=⟨gb,o+10,none⟩) HG.o).trans E10.o
    go_simp;exact hK _ hI
  intro KK hKK;go_simp;refine hKK _ ?_;clear hKK KK
 refine wpGenP_nil ?_;intro vs w5 hI;intro KK hKK;have hKN:=fun a w h=>hKK .normal a w h;simp only[List.drop_succ_cons,List.drop_zero];go_wp2;exact hKK _ _ _ ⟨rfl,⟨_,_,rfl⟩,hI⟩
theorem rwant_any(w:World)(g gb:Nat)(t:Ps.Tk)(r:List Ps.Tk)(s:ByteArray)(h:Rd w g gb (t::r)):
 Calls Tryz.prog 197 #[.pointer (some ⟨g,0,none⟩),.string s] w fun e w'=>(Ps.isW t s.data.toList=false/\(∃l c,e=panB l c)/\Below w.heap.size w w')\/(Ps.isW t s.data.toList=true/\e= .returned (.tuple #[])/\OnlyG g w w'/\Rd w' g gb r):=by
 have K:=q_ (rtake_any w g gb t r s h);clear h;go_enter Tryz.func197,Tryz.ntmps197;go_wp2_with fail;refine K.o.mono ?_;rintro e w1 (⟨hw,rfl,hb,hr⟩|⟨hw,rfl,hb,hr⟩)
 ·have B1:=q_ hb
  have R1:=q_ hr;have HW:=q_ hw;clear hb hr hw K;go_wp2_with fail;refine(rfail_any w1 g gb t r R1.o).mono ?_
  rintro e w2 ⟨⟨l,c,rfl⟩,hb2⟩;have B2:=q_ hb2;clear hb2;unfold panB;go_wp2;exact⟨rfl,.inl ⟨HW.o,⟨_,_,rfl⟩,B1.o.trans (B2.o.mono B1.o.size)⟩⟩
 ·have B1:=q_ hb
  have R1:=q_ hr;have HW:=q_ hw;clear hb hr hw K;go_wp2_with fail;go_end0;exact .inr ⟨HW.o,rfl,B1.o,R1.o⟩
theorem info_node:(Tryz.prog.info? 144).map (fun i=>(i.zero,i.size,i.bytes))=some (some (.agg #[.int .i64 0,.int .i64 0,.string ⟨#[]⟩,.int .i64 0,.string ⟨#[]⟩,.int .i64 0,.int .i64 0,.int .i64 0,.int .i64 0,.int .i64 0]),10,96):=by kernel_rfl
theorem OwnE.one{α:Type}{E:Enc α}{T:TypeId}{S:Nat->Prop}{x:α}(cs:Array Value)(hr:E.R (w.alloc (.cells cs T)) S cs.toList x)(hB:B<=w.heap.size)(hS:∀b,S b->b<w.heap.size):OwnE E T (w.alloc (.cells cs T)) B S (.slice (some ⟨w.heap.size,0,none⟩) 1 1) [x]:=by
 have hn:cs.size=E.n:=by have:=E.len hr;simpa using this
 refine⟨⟨cs.toList,⟨by simp[hn],.inr ⟨w.heap.size,1,cs,rfl,hB,by simpa using(MapKept.heap_alloc w (.cells cs T)).1,by simp,by simp[maxLen],by simp[hn],by rw[List.take_of_length_le (by simp[hn])]⟩⟩,fun j y h=> ?_⟩,fun g h hs=>by
  simp[Value.ownBlock] at h;have:=hS g hs;omega,fun b h=>by have:=hS b h;simp;omega⟩
 have hj:j=0:=by
  have:=(List.getElem?_eq_some_iff.1 h).1;simp at this;exact this
 subst hj;simp at h;subst h;exact⟨cs.toList,hr,fun i u hu=>by simpa using hu⟩
def NodesR(B:Nat)(e:Ending)(w':World)(n:List M.Node):Prop:=∃ad c,e= .returned (.slice (some ad) n.length c)/\n.length<=c/\c<=maxLen/\LAt ENode w' (fun b=>B<=b/\b<w'.heap.size) (some ad) n.length n
theorem OwnE.nodes{v:Value}{n:List M.Node}(h:OwnE ENode 144 w B NoB v n)(h1:1<=n.length)(h2:n.length<=1048576):NodesR B (.returned v) w n:=by
 rcases h.form with⟨-,rfl⟩|⟨g,cap,rfl,hB,hg,hc,hm⟩
 ·simp at h1
 ·obtain⟨A,m,c,e,-,hl⟩:=h.reads (S':=fun b=>B<=b/\b<w.heap.size) (fun b hb=>hb.elim) (fun q hq=>h.own_lt hq) h2
  simp at e;obtain⟨rfl,rfl,rfl⟩:=e;exact⟨_,_,rfl,hc,hm,hl⟩
theorem opN_ok{op n:Int}(h1:I64 op)(h2:I64 n):(Ps.opN op n).ok64:=by
 refine⟨h1,h2,?_,?_,?_⟩<;>simp[Ps.opN,Ps.E0,Ps.path0,I64,M.Path.ok64,ByteArray.size]
theorem two_join(w:World)(op:Int)(hop:I64 op)(a b:List M.Node)(A1 A2:Addr)(c1 c2:Nat)(S:Nat->Prop)(hS:∀q,S q->q<w.heap.size)(h1:LAt ENode w S (some A1) a.length a)(h2:LAt ENode w S (some A2) b.length b)(hlen:a.length+b.length+1<=1048576):
 Calls Tryz.prog 252 #[.int .i64 op,.slice (some A1) a.length c1,.slice (some A2) b.length c2] w fun e w'=>NodesR w.heap.size e w' (Ps.opN op 2::(a++b))/\Below w.heap.size w w':=by
 obtain⟨it,J1,J2,J3,J4⟩:=info_parts info_node;have L1:=q_ h1;have L2:=q_ h2;have HS:=q_ hS;have O0:=q_ (OwnE.one (E:=ENode) (T:=144) (w:=w) (B:=w.heap.size) (S:=NoB) (x:=Ps.opN op 2) #[.int .i64 op,.int .i64 2,.string ⟨#[]⟩,.int .i64 0,.string ⟨#[]⟩,.int .i64 0,.int .i64 0,.int .i64 0,.int .i64 0,.int .i64 0] ⟨rfl,opN_ok hop (by unfold I64;omega)⟩ (n_) (fun b hb=>hb.elim));have B0:=q_ ((Below.refl _ w).alloc (n_) (.cells #[.int .i64 op,.int .i64 2,.string ⟨#[]⟩,.int .i64 0,.string ⟨#[]⟩,.int .i64 0,.int .i64 0,.int .i64 0,.int .i64 0,.int .i64 0] 144));clear h1 h2 hS
 have key:∀(W:World) (A:Addr) (l:List M.Node),Below w.heap.size w W->LAt ENode w S (some A) l.length l->∀j y,l[j]? =some y->∃es,ENode.R W NoB es y/\∀i u,es[i]? =some u->W.cell? (A.add (j*ENode.n+i))=some u:=by
  intro W A l hb hl j y hy;obtain⟨ad,e,hs,hx⟩:=(hl.below hb HS.o).2 (by have:=(List.getElem?_eq_some_iff.1 hy).1;omega);cases e;exact hx j y hy
 have KEY:=q_ key;clear key;go_enter Tryz.func252,Tryz.ntmps252
 go_wp2_with (first
  |(refine wpList_append_E rfl (.tmp 9) (.tmp 10) _ rfl it (.agg #[.int .i64 0,.int .i64 0,.string ⟨#[]⟩,.int .i64 0,.string ⟨#[]⟩,.int .i64 0,.int .i64 0,.int .i64 0,.int .i64 0,.int .i64 0]) 96 Tryz.underlying29 J1 J2 J3 J4 rfl rfl O0.o A1 a.length c1 a rfl rfl (KEY.o _ _ _ B0.o L1.o) (by simp;omega) (by omega) (by simp) ?_;intro o4 w4 hown4 hb4 hg4 hw4;have O4:=q_ hown4;have B4:=q_ (B0.o.trans hb4);clear hown4 hb4 hg4 hw4)
  |(refine wpList_append_E rfl (.tmp 11) (.tmp 12) _ rfl it (.agg #[.int .i64 0,.int .i64 0,.string ⟨#[]⟩,.int .i64 0,.string ⟨#[]⟩,.int .i64 0,.int .i64 0,.int .i64 0,.int .i64 0,.int .i64 0]) 96 Tryz.underlying29 J1 J2 J3 J4 rfl rfl O4.o A2 b.length c2 b rfl rfl (KEY.o _ _ _ B4.o L2.o) (by simp;omega) (by omega) B4.o.size ?_;intro o5 w5 hown5 hb5 hg5 hw5;have O5:=q_ hown5;have B5:=q_ (B4.o.trans hb5);clear hown5 hb5 hg5 hw5))
 go_ret;have:=O5.o;rw[List.append_assoc] at this;exact⟨OwnE.nodes this (by simp) (by simp;omega),B5.o⟩
theorem kind_any(w:World)(g gb:Nat)(t:Ps.Tk)(r:List Ps.Tk)(h:Rd w g gb (t::r))(hk:t.kind=1):
 Calls Tryz.prog 196 #[.pointer (some ⟨g,0,none⟩),.int .i64 1] w fun e w'=>(∃a0 a2 a3 a4 a5 a6 a7 a8 a9 a10,e= .returned (.agg #[a0,.string ⟨t.text.toArray⟩,a2,a3,a4,a5,a6,a7,a8,a9,a10]))/\OnlyG g w w'/\Rd w' g gb r:=by
 obtain⟨o,m,c,h1,hl,hmc,hcm,hm⟩:=h.at_;have hlen:=hl.1;have h2:=h.two (by omega);have hm2:2<=m:=by omega
 have hm1:0<m:=by omega
 have hc1:¬c=1:=by omega
 obtain⟨pt,pa,pb,pc,pd,pe,l,cc,hp,e0,e1,e2,e3,e4,e5,e6,e7,e8,e9,e10,hrg⟩:=hl.head_;have q1:(t.kind !=1)=false:=by rw[hk];rfl
 have H:=q_ h;have L1:=q_ hl;have GB:=q_ h1;have HRG:=q_ (fun o'=>World.rangeAt_alloc hrg o');have c0:∀o',(w.alloc o').cell? ⟨g,0,none⟩=some (.slice (some ⟨gb,o,none⟩) m c):=fun o'=>(h1.alloc o').cell 0;have e0:∀o',(w.alloc o').cell? ⟨gb,o,none⟩=some (.int .i64 t.kind):=fun o'=>HRG.o o' 0 _ rfl;clear h h1 hl hp hrg e1 e2 e3 e4 e5 e6 e7 e8 e9 e10 hlen h2;go_enter Tryz.func196,Tryz.ntmps196;go_upto_region 4 with(refine wpList_load_mid rfl 137 (.tmp 21) rfl gb o rfl _ _ (HRG.o _) Tryz.underlying137 rfl (by kernel_rfl) ?_)
 have hgl:g<w.heap.size:=GB.o.lt;have X6:=q_ ((Blk.new w 137 zw).alloc (.cells #[.int .i64 1,.string ⟨t.text.toArray⟩,.int .i64 t.num,.string pt,.int .i64 pa,.int .i64 pb,.int .i64 pc,.int .i64 pd,.int .i64 pe,.int .i64 l,.int .i64 cc] 137))
 have X7:=q_ (show Blk ((w.alloc (.cells zw 137)).alloc (.cells #[.int .i64 1,.string ⟨t.text.toArray⟩,.int .i64 t.num,.string pt,.int .i64 pa,.int .i64 pb,.int .i64 pc,.int .i64 pd,.int .i64 pe,.int .i64 l,.int .i64 cc] 137)) (w.heap.size+1) 137 #[.int .i64 1,.string ⟨t.text.toArray⟩,.int .i64 t.num,.string pt,.int .i64 pa,.int .i64 pb,.int .i64 pc,.int .i64 pd,.int .i64 pe,.int .i64 l,.int .i64 cc] from by
  simpa using Blk.new (w.alloc (.cells zw 137)) 137 #[.int .i64 1,.string ⟨t.text.toArray⟩,.int .i64 t.num,.string pt,.int .i64 pa,.int .i64 pb,.int .i64 pc,.int .i64 pd,.int .i64 pe,.int .i64 l,.int .i64 cc])
 have G2:=q_ ((GB.o.alloc (.cells zw 137)).alloc (.cells #[.int .i64 1,.string ⟨t.text.toArray⟩,.int .i64 t.num,.string pt,.int .i64 pa,.int .i64 pb,.int .i64 pc,.int .i64 pd,.int .i64 pe,.int .i64 l,.int .i64 cc] 137));have B2:=q_ (((Below.refl _ w).alloc (n_) (.cells zw 137)).alloc (by simp) (.cells #[.int .i64 1,.string ⟨t.text.toArray⟩,.int .i64 t.num,.string pt,.int .i64 pa,.int .i64 pb,.int .i64 pc,.int .i64 pd,.int .i64 pe,.int .i64 l,.int .i64 cc] 137));clear c0 e0 HRG;generalize ((w.alloc (.cells zw 137)).alloc (.cells #[.int .i64 1,.string ⟨t.text.toArray⟩,.int .i64 t.num,.string pt,.int .i64 pa,.int .i64 pb,.int .i64 pc,.int .i64 pd,.int .i64 pe,.int .i64 l,.int .i64 cc] 137))=w2 at*;have c0:=G2.o.cell;have f0:=G2.o.frozen
 go_wp2_with (first
  |(refine wpList_load_row rfl 137 (.tmp 5) rfl (w.heap.size+1) rfl 137 _ (0,0) _ (X7.o.far (p:=⟨g,0,none⟩) (by simp;omega) _) Tryz.underlying137 rfl (by kernel_rfl) ?_)
  |(refine wpList_store_blk (cs':=#[.int .i64 1,.string ⟨t.text.toArray⟩,.int .i64 t.num,.string pt,.int .i64 pa,.int .i64 pb,.int .i64 pc,.int .i64 pd,.int .i64 pe,.int .i64 l,.int .i64 cc]) rfl 137 (.tmp 4) (.tmp 31) rfl w.heap.size rfl rfl (X6.o.far (p:=⟨g,0,none⟩) (by simp;omega) _) rfl (by kernel_rfl) (by simp[Value.oneCell']) ?_;intro w4 hk4 hg4;have K4:=q_ hk4;have G4:=q_ hg4;clear hk4 hg4))
 (try simp only[Exit.inBlock,Exit.then]);refine bodyPost_ret (results_cell_row rfl _ _ w.heap.size 137 _ (0,0) _ rfl K4.o Tryz.underlying137 rfl (by kernel_rfl)) rfl ?_;have ho:OnlyG g w w4:=((Turns.of B2.o:OnlyG g w w2).trans ((Turns.refl _ _:OnlyG g w2 w2).grown (fun _=>rfl) (grown_set w2 g 0 _)) (fun _ _ h=>h)).grown (fun h=>by omega) G4.o;have hb:Blk w4 g 133 #[.slice (some ⟨gb,o+11,none⟩) (m-1) (c-1)]:=(G2.o.one_set _).grownAt G4.o (by omega);exact⟨⟨_,_,_,_,_,_,_,_,_,_,rfl⟩,ho,H.o.next (by omega) L1.o hmc hcm hm hb ho⟩
theorem word_text_field(a b c d e f i j k l m:Value)(W:World):(Instr.field 137 (.agg #[a,b,c,d,e,f,i,j,k,l,m]) 1).run Tryz.prog W= .ok b W:=by kernel_rfl
theorem rname_any(w:World)(g gb:Nat)(t:Ps.Tk)(r:List Ps.Tk)(h:Rd w g gb (t::r))(hts:t.text.length<=1048576):
 Calls Tryz.prog 198 #[.pointer (some ⟨g,0,none⟩)] w fun e w'=>(Ps.nameOk t=false/\(∃l c,e=panB l c)/\Below w.heap.size w w')\/(Ps.nameOk t=true/\e= .returned (.string ⟨t.text.toArray⟩)/\OnlyG g w w'/\Rd w' g gb r):=by
 obtain⟨o,m,c,h1,hl,hmc,hcm,hm⟩:=h.at_;have hlen:=hl.1;have hm1:0<m:=by simp at hlen;omega
 obtain⟨pt,pa,pb,pc,pd,pe,l,cc,hp,e0,e1,e2,e3,e4,e5,e6,e7,e8,e9,e10,hrg⟩:=hl.head_;have H:=q_ h;have c0:w.cell? ⟨g,0,none⟩=some (.slice (some ⟨gb,o,none⟩) m c):=h1.cell 0;have KN:=q_ (ruleName_any ⟨t.text.toArray⟩ w (by simpa[ByteArray.size] using hts));have HOK:=q_ (show Ps.nameOk t=(decide (t.kind=1)&&M.ruleName ⟨t.text.toArray⟩) from rfl);clear h h1 hl hp hrg e2 e3 e4 e5 e6 e7 e8 e9 e10 hlen;by_cases hk:t.kind=1
 ·have q1:(t.kind !=1)=false:=by rw[hk];rfl
  have HK:=q_ hk;cases hn:M.ruleName ⟨t.text.toArray⟩ with
  |true=>
   have HN:=q_ (show Ps.nameOk t=true by rw[HOK.o,hn,hk];rfl);rw[hn] at KN;clear hn hk;go_enter Tryz.func198,Tryz.ntmps198;go_wp2_with (go_at_call 243;refine KN.o.mono ?_;rintro e w1 ⟨rfl,hb⟩;have B1:=q_ hb;clear hb);refine(kind_any w1 g gb t r (H.o.below B1.o) HK.o).mono ?_
   rintro e w2 ⟨⟨a0,a2,a3,a4,a5,a6,a7,a8,a9,a10,rfl⟩,ho,hr⟩;have O2:=q_ ho;have R2:=q_ hr;have hfd:=word_text_field;clear ho hr;go_wp2_with fail;go_ret;exact .inr ⟨HN.o,rfl,(Turns.of B1.o:OnlyG g w w1).trans O2.o (fun _ _ h=>h),R2.o⟩
  |false=>
   have HN:=q_ (show Ps.nameOk t=false by rw[HOK.o,hn];simp);rw[hn] at KN;clear hn hk;go_enter Tryz.func198,Tryz.ntmps198;go_wp2_with (go_at_call 243;refine KN.o.mono ?_;rintro e w1 ⟨rfl,hb⟩;have B1:=q_ hb;clear hb);refine(rfail_any w1 g gb t r (H.o.below B1.o)).mono ?_
   rintro e w2 ⟨⟨l,c,rfl⟩,hb2⟩;have B2:=q_ hb2;clear hb2;unfold panB;go_wp2;exact⟨rfl,.inl ⟨HN.o,⟨_,_,rfl⟩,B1.o.trans (B2.o.mono B1.o.size)⟩⟩
 ·have q1:(t.kind !=1)=true:=by rw[bne_iff_ne];exact hk
  have HN:=q_ (show Ps.nameOk t=false by rw[HOK.o];simp[hk]);clear hk KN;go_enter Tryz.func198,Tryz.ntmps198;go_wp2_with fail;refine(rfail_any w g gb t r H.o).mono ?_
  rintro e w2 ⟨⟨l,c,rfl⟩,hb2⟩;have B2:=q_ hb2;clear hb2;unfold panB;go_wp2;exact⟨rfl,.inl ⟨HN.o,⟨_,_,rfl⟩,B2.o⟩⟩
def ParseP(w:World)(g gb:Nat)(res:Ps.Res)(e:Ending)(w':World):Prop:=OnlyG g w w'/\match res with
 |none=>∃l c,e=panB l c
 |some x=>NodesR w.heap.size e w' x.1/\Rd w' g gb x.2
def PartOk(c:Ps.Cat)(f N:Nat):Prop:=∀(w:World) (g gb:Nat) (ws:List Ps.Tk) (res:Ps.Res),ws.length<=N->Rd w g gb ws->Ps.R c ws res->
 Calls Tryz.prog f #[.pointer (some ⟨g,0,none⟩)] w fun e w'=>ParseP w g gb res e w'
section
variable {w w1 w':World} {g gb:Nat} {ws:List Ps.Tk} {res:Ps.Res} {e:Ending}
theorem ParseP.on(h:ParseP w1 g gb res e w')(ho:OnlyG g w w1):ParseP w g gb res e w':=by
 refine⟨ho.trans h.1 (fun _ _ h=>h),?_⟩;have h2:=h.2;cases res with
 |none=>exact h2
 |some x=>
  obtain⟨⟨ad,c,h3,h4,h5,h6⟩,h7⟩:=h2;exact⟨⟨ad,c,h3,h4,h5,h6.wide (fun b hb=>⟨Nat.le_trans ho.size hb.1,hb.2⟩)⟩,h7⟩
theorem ParseP.okd{x:Ps.Ns×List Ps.Tk}(h:ParseP w g gb (some x) e w'):OnlyG g w w'/\NodesR w.heap.size e w' x.1/\Rd w' g gb x.2:=h
theorem ParseP.bad(h:ParseP w g gb none e w'):OnlyG g w w'/\∃l c,e=panB l c:=h
end
theorem Rd.below_{B:Nat}{w w':World}{g gb:Nat}{ws:List Ps.Tk}(h:Rd w g gb ws)(hb:Below B w w')(h1:g<B)(h2:gb<B):Rd w' g gb ws:=by
 obtain⟨o,m,c,k1,k2,k3⟩:=h.at_;exact⟨⟨o,m,c,k1.below hb h1,k2.below_ hb (fun b e=>by rw[e];exact h2),k3⟩,h.ne,Nat.lt_of_lt_of_le h.lt hb.size,h.ends,h.ok⟩
theorem onlyG_below{g:Nat}{w w1:World}(h:Below w.heap.size w w1):OnlyG g w w1:=Turns.of h
theorem onlyG_tr{g:Nat}{w w1 w2:World}(h:OnlyG g w w1)(h2:OnlyG g w1 w2):OnlyG g w w2:=h.trans h2 (fun _ _ h=>h)
theorem OwnE.reader{α:Type}{E:Enc α}{T:TypeId}{w w':World}{B g:Nat}{S:Nat->Prop}{v:Value}{xs:List α}(h:OwnE E T w B S v xs)(ho:OnlyG g w w')(hS:∀b,S b->b≠g)(hg:g<B):OwnE E T w' B S v xs:=
 h.stay ho.size (fun b hb hc=>ho.block b hb (hc.elim (hS b) (fun e=>by have:=(h.own_lt e).1;omega)))
theorem nodes_elem{B:Nat}{w:World}{ad:Addr}{c:Nat}{n:List M.Node}(h1:n.length<=c)(h2:c<=maxLen)(h3:LAt ENode w (fun b=>B<=b/\b<w.heap.size) (some ad) n.length n)(hn:n.length<=1048576):∀W,Below w.heap.size w W->ENodes.R W (fun b=>B<=b/\b<w.heap.size) [.slice (some ad) n.length c] n:=fun W hb=>
 ⟨some ad,n.length,c,rfl,⟨(fun h=>by cases h),h1,hn,h2⟩,h3.below hb (fun b h=>h.2)⟩
def plenOf:Value->Nat
 | .slice _ n _=>n
 |_=>0
theorem left_any(k N pf:Nat)(hsub:PartOk (Ps.sub k) pf N)(heg:∀args w,(callFunc pf args).run Tryz.prog w= .ok (.enter pf args) w)(w:World)(g gb:Nat)(ws:List Ps.Tk)(res:Ps.Res)(hN:ws.length<=N)(h:Rd w g gb ws)(hR:Ps.R (.bin k) ws res)(word:ByteArray)(hw:word.data.toList=Ps.word k)(op:Int)(hop:Ps.opOf k=op):
 Calls Tryz.prog 77 #[.pointer (some ⟨g,0,none⟩),.string word,.int .i64 op,.func (.func pf) #[.pointer (some ⟨g,0,none⟩)] #[]] w fun e w'=>ParseP w g gb res e w':=by
 have H:=q_ h;have HS:=q_ hsub;have HNN:=q_ hN;have hlen:=h.len;have hg:=h.glt;have hgb:=h.lt;have HW:=q_ hw;have HOP:=q_ hop;have HI:=q_ (show I64 op by rw[<-hop];rcases k with _|_|k<;>(simp only[Ps.opOf,I64];omega));clear h hsub hN hw hop;go_enter Tryz.func77,Tryz.ntmps77;go_wp2_with fail;cases hR with
 |bin0 hR1=>
  refine(HS.o w g gb ws _ HNN.o H.o hR1).mono ?_
  rintro e w1 hp;obtain⟨ho,l,c,rfl⟩:=hp.bad;have O1:=q_ ho;clear hp ho;unfold panB;go_wp2;exact⟨rfl,O1.o,_,_,rfl⟩
 | @bin1 _ _ n r _ hR1 hR2=>
   obtain⟨z1,z2,z3,-⟩:=hR1.size (Ps.sub_made k).2.1 _ _ rfl;rw[(Ps.sub_made k).1] at z1;rw[(Ps.sub_made k).2.2] at z2;have HR2:=q_ hR2;refine(HS.o w g gb ws _ HNN.o H.o hR1).mono ?_
   rintro e w1 hp;obtain⟨ho,⟨ad,c,rfl,hnc,hcm,hl⟩,hr⟩:=hp.okd;simp only at hnc hl hr;have O1:=q_ ho;have R1:=q_ hr;have hsz:=ho.size;have OW1:=q_ (OwnE.one (E:=ENodes) (T:=29) (w:=w1) (B:=w.heap.size) (S:=fun b=>w.heap.size<=b/\b<w1.heap.size) (x:=n) #[.slice (some ad) n.length c] (nodes_elem hnc hcm hl (by omega) _ ((Below.refl _ w1).alloc (n_) _)) hsz (fun b hb=>hb.2));have HB1:=q_ ((Below.refl _ w1).alloc (n_) (.cells #[.slice (some ad) n.length c] 29));obtain⟨it1,J1,J2,J3,J4⟩:=info_parts info_nodes;obtain⟨it2,I1,I2,I3,I4⟩:=info_parts info_node;clear hp ho hr hl hR1 hR2 H;go_wp2_with fail;go_loopw [9] (fun x wr=>∃(acc:List Ps.Ns) (S:Nat->Prop) (ws':List Ps.Tk),OwnE ENodes 29 wr w.heap.size S x acc/\(∀b,S b->w.heap.size<=b)/\OnlyG g w wr/\Rd wr g gb ws'/\Q_ (Ps.R (.more k acc) ws' res)/\(∀y∈acc,1<=y.length)/\1<=acc.length/\acc.flatten.length+acc.length+ws'.length<=ws.length+1) (fun x _=>100001-plenOf x)
   case atStart=>
    exact⟨[n],_,r,OW1.o,fun b hb=>hb.1,O1.o.on HB1.o,R1.o.below HB1.o,HR2,by simpa using z3,by simp,by simp;omega⟩
   case round=>
    obtain⟨acc,S,ws',hown,hS,ho,hr,hR,hne,h1,hsz⟩:=hrel;obtain⟨xa,xc,rfl⟩:=hown.shape;obtain⟨t,q,rfl⟩:=hr.ends.split;simp at hsz;have OA:=q_ hown;have SA:=q_ hS;have OR:=q_ ho;have RR:=q_ hr;have NE:=q_ hne;have K:=q_ (rtake_any wr g gb t q word hr);rw[HW.o] at K;clear hown hS ho hr hne OW1 HB1 O1 R1 HR2;go_wp2_with fail;refine K.o.mono ?_;rintro e w2 (⟨hw,rfl,hb,hr2⟩|⟨hw,rfl,ho2,hr2⟩)
    ·obtain rfl:res=some (Ps.build k acc,t::q):=by
      cases hR.o with
      |more0 _=>rfl
      |more1 h _=>rw[hw] at h;cases h
      |more2 h _ _=>rw[hw] at h;cases h
     have A2:=q_ (OA.o.below hb);have B2:=q_ hb;have R2:=q_ hr2;have O2:=q_ (OR.o.on hb);clear hb hr2 hR OA K OR RR hw;obtain⟨_,rfl⟩|⟨ga,cap,hxe,hga,hga2,hcap,hcapm⟩:=A2.o.form
     ·simp at h1
     injection hxe with hx1 _ hx2;have hx2:=hx2.symm;subst hx1 hx2;obtain⟨AA,cc,e1,-,hla⟩:=Enc.list_inv (E:=ENodes) (A2.o.reads (S':=fun b=>b<w2.heap.size) (fun b hb=>A2.o.there b hb) (fun g hg=>(A2.o.own_lt hg).2) (by omega));simp at e1;obtain⟨rfl,rfl⟩:=e1;have LA:=q_ hla;clear hla;have hB2:=O2.o.size;go_upto_region 5 with fail;go_cut [26,27] (fun v26 v27 wx=>v26= .int .i64 ((acc.length-1:Nat):Int)/\v27= .int .i64 0/\wx=w2)
     case first=>
      by_cases hc:cap=1
      all_goals
       go_wp2_with fail;go_meet;exact⟨rfl,rfl,rfl⟩
     case rest=>
      obtain⟨rfl,rfl,rfl⟩:=hcut;go_wp2_with fail;go_loopw [10,27] (fun v x wr=>∃i:Nat,x= .int .i64 i/\i+1<=acc.length/\OwnE ENode 144 wr wc.heap.size NoB v (List.replicate i (Ps.opN op 2))/\Below wc.heap.size wc wr) (fun _ x _=>acc.length-(intOf x).toNat)
      case atStart=>exact⟨0,rfl,h1,OwnE.nil (fun b hb=>hb.elim),Below.refl _ _⟩
      case round=>
       obtain⟨i,rfl,hi,hown,hbel⟩:=hrel;have OB:=q_ hown;have BB:=q_ hbel;clear hown hbel;by_cases hlt:i<acc.length-1
       ·have q1:decide ((i:Int)<((acc.length-1:Nat):Int))=true:=by simp;omega
        go_wp2_with (refine wpList_append_E rfl (.tmp 29) (.tmp 32) _ rfl it2 (.agg #[.int .i64 0,.int .i64 0,.string ⟨#[]⟩,.int .i64 0,.string ⟨#[]⟩,.int .i64 0,.int .i64 0,.int .i64 0,.int .i64 0,.int .i64 0]) 96 Tryz.underlying29 I1 I2 I3 I4 rfl rfl (OB.o.alloc _) ⟨wr.heap.size,0,none⟩ 1 1 [Ps.opN op 2] rfl rfl (news_one (cs:=[.int .i64 op,.int .i64 2,.string ⟨#[]⟩,.int .i64 0,.string ⟨#[]⟩,.int .i64 0,.int .i64 0,.int .i64 0,.int .i64 0,.int .i64 0]) ⟨rfl,opN_ok HI.o (by unfold I64;omega)⟩ (fun b hb=>hb.elim)) (by simp;omega) (by omega) (by have:=BB.o.size;simp;omega) ?_;intro o4 w4 hown4 hb4 hg4 _;have O4:=q_ hown4;have B4:=q_ ((BB.o.alloc BB.o.size (.cells #[.int .i64 op,.int .i64 2,.string ⟨#[]⟩,.int .i64 0,.string ⟨#[]⟩,.int .i64 0,.int .i64 0,.int .i64 0,.int .i64 0,.int .i64 0] 144)).trans hb4);clear hown4 hb4 hg4);go_roundw
        case rel=>exact⟨i+1,by go_num,by omega,by rw[List.replicate_succ'];exact O4.o,B4.o⟩
        case measure=>simp[intOf];omega
       ·obtain rfl:i=acc.length-1:=by omega
        have q1:decide (((acc.length-1:Nat):Int)<((acc.length-1:Nat):Int))=false:=by simp
        have HA1:=q_ h1;go_wp2_with fail;go_loopw [10,37] (fun v x wr=>∃i:Nat,x= .int .i64 i/\i<=acc.length/\OwnE ENode 144 wr wc.heap.size NoB v (List.replicate (acc.length-1) (Ps.opN op 2)++(acc.take i).flatten)/\Below wc.heap.size wc wr) (fun _ x _=>acc.length-(intOf x).toNat)
        case atStart=>exact⟨0,rfl,by omega,by simpa using OB.o,BB.o⟩
        case round=>
         clear OB BB q1;obtain⟨i,rfl,hi2,hown,hbel⟩:=hrel;have OB:=q_ hown;have BB:=q_ hbel;clear hown hbel;by_cases hlt2:i<acc.length
         ·obtain⟨ad0,n0,cs0,e0,-,hn0,hr0,hc0⟩:=LA.o.in_ hlt2
          cases e0;obtain⟨v0,rfl⟩:=one_cell (ENodes.len hr0);obtain⟨A0,c0,rfl,hok0,hl0⟩:=Enc.list_inv (E:=ENode) hr0;obtain⟨ad0,rfl,-,hx0⟩:=hl0.2 (NE.o n0 (List.mem_of_getElem? hn0));have hci:=hc0 0 _ rfl;rw[show ENodes.n=1 from rfl,Nat.mul_one,Nat.add_zero] at hci;have hci2:wr.cell? (Addr.add ⟨ga,0,none⟩ i)=some (.slice (some ad0) n0.length c0):=(BB.o.cell (by rw[block_of_add];exact hga2)).trans hci;have hci3:wr.cell? ⟨ga,i,none⟩=some (.slice (some ad0) n0.length c0):=by rw[Addr.add_lit,Nat.zero_add] at hci2;exact hci2
          have KEY:=q_ (show∀j y,n0[j]? =some y->∃es,ENode.R wr NoB es y/\∀i u,es[i]? =some u->wr.cell? (ad0.add (j*ENode.n+i))=some u from fun j y hy=>by
           obtain⟨ad,e,-,hx⟩:=(hl0.below_ BB.o (fun b hb=>hb)).2 (by have:=(List.getElem?_eq_some_iff.1 hy).1;omega);cases e;exact hx j y hy)
          have hfl:n0.length<=acc.flatten.length:=by
           have:=List.sublist_flatten_of_mem (List.mem_of_getElem? hn0);exact this.length_le
          have htk:(acc.take i).flatten.length<=acc.flatten.length:=by
           conv=>rhs;rw[<-List.take_append_drop i acc,List.flatten_append]
           simp
          have HBND:=q_ (show(List.replicate (acc.length-1) (Ps.opN op 2)++(acc.take i).flatten).length+n0.length<=1099511627776 from by
           rw[List.length_append,List.length_replicate];rw[<-List.length_flatten] at hsz;omega)
          have HN0:=q_ hn0;clear hr0 hc0 hci hci2 hl0 hx0 hok0 hn0;have q1:decide ((i:Int)<(acc.length:Int))=true:=by simp;omega
          go_wp2_with (at_builtin;go_loud (refine wpList_append_E rfl (.tmp 41) (.tmp 42) _ rfl it2 (.agg #[.int .i64 0,.int .i64 0,.string ⟨#[]⟩,.int .i64 0,.string ⟨#[]⟩,.int .i64 0,.int .i64 0,.int .i64 0,.int .i64 0,.int .i64 0]) 96 Tryz.underlying29 I1 I2 I3 I4 rfl rfl OB.o ad0 n0.length c0 n0 rfl rfl KEY.o HBND.o (by omega) BB.o.size ?_;intro o4 w4 hown4 hb4 hg4 _;have O4:=q_ hown4;have B4:=q_ (BB.o.trans hb4);clear hown4 hb4 hg4));go_roundw
          case rel=>
           refine⟨i+1,by go_num,by omega,?_,B4.o⟩;have:=O4.o;rw[List.append_assoc] at this;rw[List.take_add_one,HN0.o];simpa using this
          case measure=>simp[intOf];omega
         ·obtain rfl:i=acc.length:=by omega
          have q1:decide ((acc.length:Int)<(acc.length:Int))=false:=by simp
          go_wp2_with fail;go_ret;have hlast:=OB.o;rw[List.take_length] at hlast
          have hne:1<=(Ps.build k acc).length/\(Ps.build k acc).length<=1048576:=by
           cases acc with
           |nil=>simp at h1
           |cons y acc=>
            have:=NE.o y (List.mem_cons_self ..);simp[Ps.build] at hsz⊢;omega
          obtain⟨ad,c,e,k1,k2,k3⟩:=OwnE.nodes (n:=Ps.build k acc) (by unfold Ps.build;rw[HOP.o];exact hlast) hne.1 hne.2;exact⟨O2.o.on (BB.o),⟨ad,c,e,k1,k2,k3.wide (fun b hb=>⟨Nat.le_trans hB2 hb.1,hb.2⟩)⟩,R2.o.below BB.o⟩
    ·have R2:=q_ hr2
     have O2:=q_ (onlyG_tr OR.o ho2);have A2:=q_ (OA.o.reader ho2 (fun b hb=>by have:=SA.o b hb;omega) hg);have hql:q.length<=N:=by have:=HNN.o;omega
     clear hr2 ho2 OA OR RR K;cases hR.o with
     |more0 h=>rw[hw] at h;cases h
     |more1 _ hR1=>
      go_wp2_with fail;refine(HS.o w2 g gb q _ hql R2.o hR1).mono ?_
      rintro e w3 hp;obtain⟨ho,l,c,rfl⟩:=hp.bad;have O3:=q_ (onlyG_tr O2.o ho);clear hp ho;unfold panB;go_wp2;exact⟨rfl,O3.o,_,_,rfl⟩
     | @more2 _ _ _ _ n2 r2 _ _ hR1 hR3=>
       obtain⟨z1,z2,z3,-⟩:=hR1.size (Ps.sub_made k).2.1 _ _ rfl;rw[(Ps.sub_made k).1] at z1;have HR3:=q_ hR3;go_wp2_with fail;refine(HS.o w2 g gb q _ hql R2.o hR1).mono ?_
       rintro e w3 hp;obtain⟨ho,⟨ad2,c2,rfl,hnc2,hcm2,hl2⟩,hr⟩:=hp.okd;simp only at hnc2 hl2 hr;have A3:=q_ ((A2.o.reader ho (fun b hb=>by have:=SA.o b hb;omega) hg).widen (S2:=fun b=>w2.heap.size<=b/\b<w3.heap.size) (fun b hb=>hb.2) (fun b hb hs=>by have:=(A2.o.own_lt hb).2;omega));have O3:=q_ (onlyG_tr O2.o ho);have R3:=q_ hr;have NW:=q_ (news_one (E:=ENodes) (w:=w3) (S:=fun b=>S b\/(w2.heap.size<=b/\b<w3.heap.size)) (x:=n2) (cs:=[.slice (some ad2) n2.length c2]) (T':=29) (Enc.wide (E:=ENodes) (nodes_elem hnc2 hcm2 hl2 (by omega) _ (Below.refl _ w3)) (fun b hb=> .inr hb)) A3.o.there);have hs2:=O2.o.size;have hs3:=ho.size;have HB3:=q_ ((Below.refl _ w3).alloc (n_) (.cells #[.slice (some ad2) n2.length c2] 29));clear hp ho hr hl2 A2 O2 R2 hR hR1 hR3
       go_wp2_with (refine wpList_append_E rfl (.tmp 19) (.tmp 22) _ rfl it1 (.slice none 0 0) 24 Tryz.underlying146 J1 J2 J3 J4 rfl rfl (A3.o.alloc _) ⟨w3.heap.size,0,none⟩ 1 1 [n2] rfl rfl NW.o (by omega) (by omega) (by simp;omega) ?_;intro o4 w4 hown4 hb4 hg4 _;have A4:=q_ hown4;have B4:=q_ (hb4.mono (show w.heap.size<=w.heap.size from n_));have G4:=q_ hg4;clear hown4 hb4 hg4);go_roundw
       case rel=>
        refine⟨acc++[n2],_,r2,A4.o,?_,(O3.o.on HB3.o).grownO (fun b hb h=> ?_) G4.o,?_,HR3,?_,?_,?_⟩
        ·intro b hb
         rcases hb with hb|hb
         ·exact SA.o b hb
         ·exact Nat.le_trans hs2 hb.1
        ·have:=(A3.o.own_lt hb).1
         omega
        ·exact(R3.o.below HB3.o).below_ B4.o hg hgb
        ·intro y hy
         rcases List.mem_append.1 hy with hy|hy
         ·exact NE.o y hy
         ·simp at hy
          rw[hy];exact z3
        ·simp
        ·simp
         omega
       case measure=>
        obtain⟨ya,yc,hy⟩:=A4.o.shape;rw[hy];simp[plenOf];omega
end
end Go.Proofs.YtnocnbklhikmnaaGreatDoor
