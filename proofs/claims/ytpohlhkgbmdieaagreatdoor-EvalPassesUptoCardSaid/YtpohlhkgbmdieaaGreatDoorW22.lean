/- Part 22 of the proof. -/
import Derived.Test.YtpohlhkgbmdieaaGreatDoorW19
set_option linter.unusedVariables false
set_option maxRecDepth 1000000
set_option maxHeartbeats 16000000
namespace Go.Proofs.YtpohlhkgbmdieaaGreatDoor
variable{e:Ending}{m:M.dQ}{w w':World}
open Go Go.RowKit Go.BigFrame
theorem bH{P:Program}{ops:Array Oper}{rest:List Oper}{op:Oper}{a:Act}{Q:Exit->Act->World->Prop}(hgd:op.guard=none)(ty:TypeId)(x y:Operand)(ho:op.op= .store ty x y)(b i:Nat)(v old:Value)(hx:a.eval x= .pointer (some ⟨b,i,none⟩))(hy:a.eval y=v)(hc:w.cell? ⟨b,i,none⟩=some old)(hf:w.frozen? ⟨b,i,none⟩=false)(hsz:(P.info? ty).map (·.size)=some 1)(h1:v.oneCell'=true)(h:∀w',w'=w.setCell ⟨b,i,none⟩ v->wpList P ops Q rest (a.put op.dst undef) w'):wpList P ops Q (op::rest) a w:=by
 refine wpList_plain hgd fun K' hK'=> ?_
 have hs:(storeVar ty ⟨b,i,none⟩ v).run P w= .ok () (w.setCells b i [v]):=by
  have:=run_storeCells_cells (P:=P) b i [v] 0 w (fun j hj=>by
   simp at hj;subst hj;rw[show i+0+0=i by omega,hc];rfl) (fun j hj=>by
   simp at hj;subst hj;exact hf) (fun u hu=>by simp at hu;subst hu;exact h1)
  cases hq:P.info? ty with
  |none=>simp[hq] at hsz
  |some i'=>
   have hs:i'.size=1:=by simpa[hq] using hsz
   simp only[Nat.add_zero] at this;simp[storeVar,sizeOf,typeInfo,hq,nY h1,hs,this]
 unfold Oper.wp execOp;simp only[ho,hx,hy,Instr.storeAt,Instr.sureAddr,Sem.run_bind,Sem.run_pure,Result.andThen_ok,hs];exact hK' _ _ (h _ rfl)
def bm(w:World)(er:Int)(m:M.dQ)(e:Ending)(w':World):Prop:=
 if er≠0 then e= .returned (.tuple #[.agg #[.int .u8 0,.int .u8 0,.int .u8 0,.int .u8 0,.int .u8 0,.slice none 0 0],.int .i64 er])/\Below w.heap.size w w' else x8 w m 0 e w'
theorem bm.err{er:Int}(h:er≠0)(he:e= .returned (.tuple #[.agg #[.int .u8 0,.int .u8 0,.int .u8 0,.int .u8 0,.int .u8 0,.slice none 0 0],.int .i64 er]))(hb:Below w.heap.size w w'):bm w er m e w':=by
 unfold bm;rw[if_pos h];exact⟨he,hb⟩
theorem bm.ok(h:x8 w m 0 e w'):bm w 0 m e w':=by
 unfold bm;rw[if_neg (by simp)];exact h
theorem aD.fV{α:Type}{E:aU α}{T t:TypeId}{B g:Nat}{S:Nat->Prop}{v:Value}{xs:List α}{cs:Array Value}(h:aD E T w B S v xs)(hk:ar w g t cs)(ht:t≠T):v.ownBlock≠some g:=by
 intro e;obtain⟨cs',ho,_⟩:=h.row;rcases ho.2 with⟨rfl,_⟩|⟨g',cap,cur,rfl,_,hh,_⟩
 ·cases e
 ·injection e with e
  subst e;have:=hk.symm.trans hh;injection this with this;injection this with _ this _;exact ht this
theorem LZ:(Tryz.prog.info? 48).map (fun i=>(i.zero,i.size,i.bytes))=some (some (.agg #[.string ByteArray.empty,.slice none 0 0]),2,40):=by kernel_rfl
theorem Eb(d:M.bR)(A:Option Addr)(c:Nat)(l:List M.Seg)(aN:ByteArray)(aP:Int)(aR rep comp sub:Nat)(v:ByteArray)(hv:v.size<=1048576)(S:Nat->Prop)(w:World)(hS:∀b,S b->b<w.heap.size)(aI:bX A l.length c)(hl:bn aX w S A l.length l)(hp:(⟨aN,aP,aR,rep,comp,sub⟩:M.Path).jd):
 Calls Tryz.prog 123 #[.agg #[.int .u8 (d.f.toNat:Int),.int .u8 (d.c.toNat:Int),.int .u8 (d.r.toNat:Int),.int .u8 (d.e.toNat:Int),.int .u8 (d.s.toNat:Int),.slice A l.length c],.agg #[.string aN,.int .i64 aP,.int .i64 (aR:Nat),.int .i64 (rep:Nat),.int .i64 (comp:Nat),.int .i64 (sub:Nat)],.string v] w (bm w (M.lx ⟨d,l⟩ ⟨aN,aP,aR,rep,comp,sub⟩) (M.uL ⟨d,l⟩ ⟨aN,aP,aR,rep,comp,sub⟩ v)):=by
 have hm:=aI.le;have SE:=hp.1;obtain⟨w1,bu⟩:∃w1,w1=w.alloc (.cells #[.int .u8 (d.f.toNat:Int),.int .u8 (d.c.toNat:Int),.int .u8 (d.r.toNat:Int),.int .u8 (d.e.toNat:Int),.int .u8 (d.s.toNat:Int),.slice A l.length c] 27):=⟨_,rfl⟩
 obtain⟨w2,hw2⟩:∃w2,w2=w1.alloc (.cells #[.string aN,.int .i64 aP,.int .i64 (aR:Nat),.int .i64 (rep:Nat),.int .i64 (comp:Nat),.int .i64 (sub:Nat)] 127):=⟨_,rfl⟩
 obtain⟨w3,hw3⟩:∃w3,w3=w2.alloc (.cells #[.int .u8 0,.int .u8 0,.int .u8 0,.int .u8 0,.int .u8 0,.slice none 0 0] 27):=⟨_,rfl⟩
 have s1:w1.heap.size=w.heap.size+1:=by rw[bu];simp
 have s2:w2.heap.size=w.heap.size+2:=by rw[hw2];simp[s1]
 have s3:w3.heap.size=w.heap.size+3:=by rw[hw3];simp[s2]
 have X1:=q_ (show ar w3 w.heap.size 27 #[.int .u8 (d.f.toNat:Int),.int .u8 (d.c.toNat:Int),.int .u8 (d.r.toNat:Int),.int .u8 (d.e.toNat:Int),.int .u8 (d.s.toNat:Int),.slice A l.length c] by rw[hw3,hw2,bu];exact((ar.new w _ _).alloc _).alloc _);have X2:=q_ (show ar w3 (w.heap.size+1) 127 #[.string aN,.int .i64 aP,.int .i64 (aR:Nat),.int .i64 (rep:Nat),.int .i64 (comp:Nat),.int .i64 (sub:Nat)] by rw[hw3,hw2];exact s1▸(ar.new w1 _ _).alloc _);have X3:=q_ (show ar w3 (w.heap.size+2) 27 #[.int .u8 0,.int .u8 0,.int .u8 0,.int .u8 0,.int .u8 0,.slice none 0 0] by rw[hw3];exact s2▸ar.new w2 _ _);have B3:=q_ (show Below w.heap.size w w3 by rw[hw3,hw2,bu];exact(((Below.refl _ w).alloc (n_) _).alloc (by simp) _).alloc (by simp;omega) _);have HL:=q_ hl;have HS:=q_ hS;have HP:=q_ hp;have OK:=q_ aI
 have HE:=q_ (show M.lx ⟨d,l⟩ ⟨aN,aP,aR,rep,comp,sub⟩=(if M.asked ⟨d,l⟩ ⟨aN,aP,aR,rep,comp,sub⟩ false≠0 then M.asked ⟨d,l⟩ ⟨aN,aP,aR,rep,comp,sub⟩ false
  else if(100:Int)<aR\/(50:Int)<rep\/(50:Int)<comp\/(50:Int)<sub then 2
  else if(M.count ⟨d,l⟩ aN:Int)+1<aP then 3
  else if aP=(M.count ⟨d,l⟩ aN:Int)+1/\200<=l.length then 2
  else 0) from rfl)
 have KA:=q_ (fun(W:World) (h:Below w.heap.size w W)=>yM d A c l ⟨aN,aP,aR,rep,comp,sub⟩ false S W (fun b hb=>l_ (HS.o b hb) h.size) aI (HL.o.below h HS.o) hp);have KC:=q_ (fun(W:World) (h:Below w.heap.size w W)=>yo d A c l aN S W (fun b hb=>l_ (HS.o b hb) h.size) aI (HL.o.below h HS.o));have KL:=q_ (fun(W:World) (h:Below w.heap.size w W)=>clone_any cloneIG aX rfl A l.length c l S W (fun b hb=>l_ (HS.o b hb) h.size) aI (HL.o.below h HS.o));have KN:=q_ (fun(W:World)=>dT aN W (by have h:aN.size<=1048576:=SE;omega));have HG:=q_ (show M.grown ⟨d,l⟩ ⟨aN,aP,aR,rep,comp,sub⟩=if aP=(M.count ⟨d,l⟩ aN:Int)+1 then l++[⟨aN,[]⟩] else l from rfl);have HM:=q_ (show M.uL ⟨d,l⟩ ⟨aN,aP,aR,rep,comp,sub⟩ v=M.canon ⟨d,(M.grown ⟨d,l⟩ ⟨aN,aP,aR,rep,comp,sub⟩).modify (M.at0 (M.grown ⟨d,l⟩ ⟨aN,aP,aR,rep,comp,sub⟩) aN aP).toNat (M.kp ⟨aN,aP,aR,rep,comp,sub⟩ v)⟩ from rfl)
 have L0:M.count ⟨d,l⟩ aN<=1048576:=by
  have:M.count ⟨d,l⟩ aN<=l.length:=List.length_filter_le _ _;omega
 generalize Lr:M.count ⟨d,l⟩ aN=n at*;have HCN:=q_ Lr;generalize Qe:M.asked ⟨d,l⟩ ⟨aN,aP,aR,rep,comp,sub⟩ false=ea at*;have Ya:=q_ Qe;obtain⟨it,hit,hz,hs1,hb1⟩:=info_parts LZ;have J1:=q_ hit;have J2:=q_ hz;have J3:=q_ hs1;have J4:=q_ hb1;clear hl hS aI hp Lr Qe hit hz hs1 hb1;have z1:=X1.o.cell;have z2:=X2.o.cell;go_enter Tryz.func123,Tryz.ntmps123;go_wp2_with fail;rw[<-bu,<-hw2,<-hw3];clear bu hw2 hw3;refine(KA.o _ B3.o).mono ?_
 rintro e w4 ⟨rfl,hb4⟩;have B4:=q_ (B3.o.trans (hb4.mono B3.o.size));have Y1:=q_ (X1.o.below hb4 (by omega));have Y2:=q_ (X2.o.below hb4 (by omega));have Y3:=q_ (X3.o.below hb4 (by omega));have s4:w.heap.size+3<=w4.heap.size:=by have:=hb4.size;omega
 clear hb4 z1 z2;have z1:=Y1.o.cell;have z2:=Y2.o.cell;by_cases L3:ea=0;rotate_left
 ·have q1:(ea !=0)=true:=by simp[L3]
  have Cp:=q_ (show M.lx ⟨d,l⟩ ⟨aN,aP,aR,rep,comp,sub⟩=ea by rw[HE.o,if_pos L3]);go_wp2_with (refine ah (cs':=#[.int .u8 0,.int .u8 0,.int .u8 0,.int .u8 0,.int .u8 0,.slice none 0 0]) rfl 27 (.tmp 6) (.tmp 17) rfl (w.heap.size+2) (by rfl) (by rfl) Y3.o rfl (by kernel_rfl) (by simp[Value.oneCell']) ?_;intro w9 k9 g9;have K9:=q_ k9;have B9:=q_ (ai B4.o g9 (by omega));clear k9 g9)
  (try simp only[Exit.inBlock,Exit.then]);exact bodyPost_ret (eH rfl K9.o rfl rfl rfl) rfl (bm.err (by rw[Cp.o];exact L3) (by rw[Cp.o];rfl) B9.o)
 have q1:(ea !=0)=false:=by simp[L3]
 have HEA:=q_ L3
 have ZQ:M.bM ⟨aN,aP,aR,rep,comp,sub⟩=true/\1<=aR:=by
  have h1:=Ya.o;rw[L3] at h1;unfold M.asked at h1;split at h1
  ·cases h1
  ·split at h1
   ·cases h1
   ·next Gy=>
    have h2:M.may ⟨aN,aP,aR,rep,comp,sub⟩ false=true:=by simpa using Gy
    unfold M.may at h2;simp only[Bool.and_eq_true,Bool.or_eq_true,decide_eq_true_eq,Bool.false_and,Bool.false_eq_true,or_false] at h2;exact⟨h2.1.1,by have:=h2.2;omega⟩
 have dr:1<=aP/\(1<=rep/\rep<=200)/\(1<=comp/\comp<=200)/\(1<=sub/\sub<=200):=by
  have h1:=ZQ.1;unfold M.bM M.CO at h1;simp only[Bool.and_eq_true,Bool.or_eq_true,decide_eq_true_eq] at h1;omega
 have Yb:=q_ dr;have HPO:=q_ ZQ;clear ZQ dr L3;go_wp2_with fail;refine(KC.o _ B4.o).mono ?_
 rintro e w5 ⟨rfl,cT⟩;have B5:=q_ (B4.o.trans (cT.mono B4.o.size));have V1:=q_ (Y1.o.below cT (by omega));have V2:=q_ (Y2.o.below cT (by omega));have V3:=q_ (Y3.o.below cT (by omega));have s5:w.heap.size+3<=w5.heap.size:=by have:=cT.size;omega
 clear cT z1 z2;have z1:=V1.o.cell;have z2:=V2.o.cell;have r6:1<=rep:=Yb.o.2.1.1;by_cases h6:100<aR
 ·have q2:decide ((100:Int)<(aR:Int))=true:=by simp;omega
  have Cp:=q_ (show M.lx ⟨d,l⟩ ⟨aN,aP,aR,rep,comp,sub⟩=2 by rw[HE.o,HEA.o,if_neg (by simp),if_pos (.inl (by omega))]);go_wp2_with (refine ah (cs':=#[.int .u8 0,.int .u8 0,.int .u8 0,.int .u8 0,.int .u8 0,.slice none 0 0]) rfl 27 (.tmp 6) (.tmp 35) rfl (w.heap.size+2) (by rfl) (by rfl) V3.o rfl (by kernel_rfl) (by simp[Value.oneCell']) ?_;intro w9 k9 g9;have K9:=q_ k9;have B9:=q_ (ai B5.o g9 (by omega));clear k9 g9)
  (try simp only[Exit.inBlock,Exit.then]);exact bodyPost_ret (eH rfl K9.o rfl rfl rfl) rfl (bm.err (by rw[Cp.o];decide) (by rw[Cp.o];rfl) B9.o)
 have q2:decide ((100:Int)<(aR:Int))=false:=by simp;omega
 have hmx:∃mx:Nat,(if(if rep<comp then(comp:Int) else(rep:Int))<(sub:Int) then(sub:Int) else if rep<comp then(comp:Int) else(rep:Int))=(mx:Int)/\(50<mx<->(50<rep\/50<comp\/50<sub)):=by
  by_cases h1:rep<comp
  ·rw[if_pos h1]
   by_cases h2:(comp:Int)<(sub:Int)
   ·exact⟨sub,if_pos h2,by omega⟩
   ·exact⟨comp,if_neg h2,by omega⟩
  ·rw[if_neg h1]
   by_cases h2:(rep:Int)<(sub:Int)
   ·exact⟨sub,if_pos h2,by omega⟩
   ·exact⟨rep,if_neg h2,by omega⟩
 obtain⟨mx,hmx,jaO⟩:=hmx;have jaP:=q_ jaO;clear jaO;by_cases h7:50<mx
 ·have q3:decide ((50:Int)<(mx:Int))=true:=by simp;omega
  have Cp:=q_ (show M.lx ⟨d,l⟩ ⟨aN,aP,aR,rep,comp,sub⟩=2 by rw[HE.o,HEA.o,if_neg (by simp),if_pos (by have:=jaP.o.1 h7;omega)]);go_wp2_with (refine ah (cs':=#[.int .u8 0,.int .u8 0,.int .u8 0,.int .u8 0,.int .u8 0,.slice none 0 0]) rfl 27 (.tmp 6) (.tmp 35) rfl (w.heap.size+2) (by rfl) (by rfl) V3.o rfl (by kernel_rfl) (by simp[Value.oneCell']) ?_;intro w9 k9 g9;have K9:=q_ k9;have B9:=q_ (ai B5.o g9 (by omega));clear k9 g9)
  (try simp only[Exit.inBlock,Exit.then]);exact bodyPost_ret (eH rfl K9.o rfl rfl rfl) rfl (bm.err (by rw[Cp.o];decide) (by rw[Cp.o];rfl) B9.o)
 have q3:decide ((50:Int)<(mx:Int))=false:=by simp;omega
 have HE1:=q_ (show M.lx ⟨d,l⟩ ⟨aN,aP,aR,rep,comp,sub⟩=(if(n:Int)+1<aP then 3 else if aP=(n:Int)+1/\200<=l.length then 2 else 0) by rw[HE.o,HEA.o,if_neg (by simp),if_neg (by have:=jaP.o;omega)]);by_cases h8:(n:Int)+1<aP
 ·have q4:decide ((n:Int)+1<aP)=true:=by simp;omega
  have Cp:=q_ (show M.lx ⟨d,l⟩ ⟨aN,aP,aR,rep,comp,sub⟩=3 by rw[HE1.o,if_pos h8]);go_wp2_with (refine ah (cs':=#[.int .u8 0,.int .u8 0,.int .u8 0,.int .u8 0,.int .u8 0,.slice none 0 0]) rfl 27 (.tmp 6) (.tmp 42) rfl (w.heap.size+2) (by rfl) (by rfl) V3.o rfl (by kernel_rfl) (by simp[Value.oneCell']) ?_;intro w9 k9 g9;have K9:=q_ k9;have B9:=q_ (ai B5.o g9 (by omega));clear k9 g9)
  (try simp only[Exit.inBlock,Exit.then]);exact bodyPost_ret (eH rfl K9.o rfl rfl rfl) rfl (bm.err (by rw[Cp.o];decide) (by rw[Cp.o];rfl) B9.o)
 have q4:decide ((n:Int)+1<aP)=false:=by simp;omega
 have h51:=Yb.o.1;by_cases h9:aP=(n:Int)+1
 ·have q5:(aP==(n:Int)+1)=true:=by simp[h9]
  by_cases h10:200<=l.length
  ·have q6:decide ((200:Int)<=(l.length:Int))=true:=by simp;omega
   have Cp:=q_ (show M.lx ⟨d,l⟩ ⟨aN,aP,aR,rep,comp,sub⟩=2 by rw[HE1.o,if_neg h8,if_pos ⟨h9,h10⟩]);clear h9;go_wp2_with (refine ah (cs':=#[.int .u8 0,.int .u8 0,.int .u8 0,.int .u8 0,.int .u8 0,.slice none 0 0]) rfl 27 (.tmp 6) (.tmp 55) rfl (w.heap.size+2) (by rfl) (by rfl) V3.o rfl (by kernel_rfl) (by simp[Value.oneCell']) ?_;intro w9 k9 g9;have K9:=q_ k9;have B9:=q_ (ai B5.o g9 (by omega));clear k9 g9)
   (try simp only[Exit.inBlock,Exit.then]);exact bodyPost_ret (eH rfl K9.o rfl rfl rfl) rfl (bm.err (by rw[Cp.o];decide) (by rw[Cp.o];rfl) B9.o)
  have q6:decide ((200:Int)<=(l.length:Int))=false:=by simp;omega
  have Cp:=q_ (show M.lx ⟨d,l⟩ ⟨aN,aP,aR,rep,comp,sub⟩=0 by rw[HE1.o,if_neg h8,if_neg (fun h=>h10 h.2)]);obtain⟨l9,Wa⟩:∃l9,l9=l++[(⟨aN,[]⟩:M.Seg)]:=⟨_,rfl⟩
  have ZR:=q_ (show M.grown ⟨d,l⟩ ⟨aN,aP,aR,rep,comp,sub⟩=l9 by rw[HG.o,if_pos h9,Wa]);have Hv:∃j:Nat,j<l9.length/\M.at0 l9 aN aP=(j:Int):=yN _ aN aP d h51 (by rw[Wa,DX,HCN.o];push_cast;omega);have jcO:l9.length<=1048576:=by rw[Wa];simp;omega
  have HL9:=q_ Wa;clear Wa;clear h9;go_wp2_with fail
  refine aO 7 [] aj (fun
   |4=>some fun u w'=>∃A2 c2,u= .slice A2 l.length c2/\aD aX 48 w' w5.heap.size S (.slice A2 l.length c2) l
   |5=>some fun u w'=>∃A2 c2,u= .agg #[.int .u8 (d.f.toNat:Int),.int .u8 (d.c.toNat:Int),.int .u8 (d.r.toNat:Int),.int .u8 (d.e.toNat:Int),.int .u8 (d.s.toNat:Int),.slice A2 l.length c2]/\aD aX 48 w' w5.heap.size S (.slice A2 l.length c2) l
   |6=>some fun u w'=>∃g,u= .pointer (some ⟨g,0,none⟩)/\w5.heap.size<=g/\ar w' g 27 #[.int .u8 0,.int .u8 0,.int .u8 0,.int .u8 0,.int .u8 0,.slice none 0 0]
   |_=>none) (by kernel_rfl) (by kernel_rfl) aj.refl (by simp) (aj.draw _) aj.trans ?_ ?_
  ·intro j φ u x y hB hp jK
   split at hB<;>cases hB
   ·obtain⟨A2,c2,e,ho⟩:=hp
    exact⟨A2,c2,e,ho.below jK⟩
   ·obtain⟨A2,c2,e,ho⟩:=hp
    exact⟨A2,c2,e,ho.below jK⟩
   ·obtain⟨g,e,dS,hk⟩:=hp
    exact⟨g,e,dS,hk.stays jK⟩
  iterate 4
   apply au rfl rfl
   ·intro vs wx hk K hK
    have c0:=fun i=>(V1.o.stays hk.1).cell i;go_simp;exact hK _ (aj.refl _)
   intro KK af;go_simp;refine af _ ?_;clear af KK
  refine bp rfl ?_ ?_
  ·intro vs wx hk K hK
   have C:=KL.o wx (Kn B5.o hk.1);go_simp;exact C.mono fun x w' ⟨v,hx,ho,hb⟩=>by obtain⟨A2,c2,rfl⟩:=ho.shape;exact⟨_,hx,hK _ _ hb ⟨A2,c2,rfl,ho.base hk.1.size⟩⟩
  intro KK af;go_simp;refine af _ ?_;clear af KK;refine bp rfl ?_ ?_
  ·intro vs wx hk K hK
   obtain⟨A2,c2,e,ho⟩:=hk.2 4 _ rfl (by kernel_rfl);go_simp;exact hK _ _ (aj.refl _) ⟨A2,c2,rfl,ho⟩
  intro KK af;go_simp;refine af _ ?_;clear af KK;refine bp rfl ?_ ?_
  ·intro vs wx hk K hK
   go_simp;exact hK _ _ (aj.alloc _ _) ⟨_,rfl,hk.1.size,ar.new _ _ _⟩
  intro KK af;go_simp;refine af _ ?_;clear af KK;refine bg ?_;intro vs w6 jL Hw;obtain⟨A2,c2,e5,ud⟩:=Hw 5 _ (by omega) rfl;obtain⟨g,e6,jaQ,oH⟩:=Hw 6 _ (by omega) rfl;intro KK af;rw[e5,e6];have B6:=q_ (Kn B5.o jL);have U2:=q_ (V2.o.stays jL);have U3:=q_ (V3.o.stays jL);have O6:=q_ ud;have Qf:=q_ oH;have s6:=jL.size;have Ec:(Value.slice A2 l.length c2).ownBlock≠some g:=fun e=>aD.fV O6.o Qf.o (by decide) e;have Be:¬S g:=fun h=>by have:=HS.o _ h;omega
  clear jL Hw e5 e6 ud oH z1 z2;simp only[List.drop_succ_cons];refine ah (cs':=#[.int .u8 (d.f.toNat:Int),.int .u8 (d.c.toNat:Int),.int .u8 (d.r.toNat:Int),.int .u8 (d.e.toNat:Int),.int .u8 (d.s.toNat:Int),.slice A2 l.length c2]) rfl 27 (.tmp 10) (.tmp 61) rfl g (by rfl) (by rfl) Qf.o rfl (by kernel_rfl) (by simp[Value.oneCell']) ?_;intro w7 k7 g7;have K7:=q_ k7;have O7:=q_ ((O6.o.aK g7 Ec Be).base (show w.heap.size<=w5.heap.size by omega));have T2:=q_ (U2.o.aK g7 (by omega));have T3:=q_ (U3.o.aK g7 (by omega));have B7:=q_ (ai B6.o g7 (by omega));have s7:w5.heap.size<=w7.heap.size:=by have:=g7.size;omega
  clear k7 g7;have z2:=T2.o.cell;have z7:=K7.o.cell;go_wp2_with fail;have KNs:=q_ (fun(W:World)=>KN.o W)
  refine aO 7 [] aj (fun
   |6=>some fun u w'=>∃gb,u= .slice (some ⟨gb,0,none⟩) 1 1/\w7.heap.size<=gb/\ar w' gb 48 #[.string aN,.slice none 0 0]
   |_=>none) (by kernel_rfl) (by kernel_rfl) aj.refl (by simp) (aj.draw _) aj.trans ?_ ?_
  ·intro j φ u x y hB hp jK
   split at hB<;>cases hB;obtain⟨gb,e,dS,hk⟩:=hp;exact⟨gb,e,dS,hk.stays jK⟩
  iterate 6
   apply au rfl rfl
   ·intro vs wx hk K hK
    first
    |have c0:=fun i=>(K7.o.stays hk.1).cell i
     go_simp;exact hK _ (aj.refl _)
    |have c0:=fun i=>(T2.o.stays hk.1).cell i
     go_simp;exact hK _ (aj.refl _)
    |go_simp
     first
      |exact hK _ (aj.refl _)
      |exact(KNs.o wx).mono fun e w' ⟨he,hb⟩=>⟨_,he,hK _ hb⟩
   intro KK af;go_simp;refine af _ ?_;clear af KK
  refine bp rfl ?_ ?_
  ·intro vs wx hk K hK
   go_simp;exact hK _ _ (aj.alloc _ _) ⟨_,rfl,hk.1.size,ar.new _ _ _⟩
  intro KK af;go_simp;refine af _ ?_;clear af KK;refine bg ?_;intro vs w8 Hx hv8;obtain⟨gb,e6,hgeb,hgb⟩:=hv8 6 _ (by omega) rfl;intro KK af;rw[e6];have B8:=q_ (Kn B7.o Hx);have K8:=q_ (K7.o.stays Hx);have R2:=q_ (T2.o.stays Hx);have R3:=q_ (T3.o.stays Hx);have O8:=q_ (O7.o.below Hx);have Ma:=q_ hgb;have s8:=Hx.size;clear Hx hv8 e6 hgb z2 z7;simp only[List.drop_succ_cons];refine ay rfl (.tmp 68) (.tmp 73) _ rfl it (.agg #[.string ByteArray.empty,.slice none 0 0]) 40 Tryz.underlying25 J1.o J2.o J3.o J4.o rfl rfl O8.o ⟨gb,0,none⟩ 1 1 [(⟨aN,[]⟩:M.Seg)] rfl rfl (fw Ma.o ⟨[.string aN],[.slice none 0 0],rfl,⟨rfl,SE⟩,aU.fu⟩) (by simp;omega) (by omega) (by have:=B8.o.size;omega) ?_;intro o9 w9 ho9 Nv Uv jb9;rw[<-HL9.o] at ho9;have O9:=q_ ho9;have jb':(Value.slice A2 l.length c2).ownBlock≠some g:=Ec;have K9:=q_ (K8.o.grown Uv (fun e=>jb' e.symm));have P2:=q_ (R2.o.grown Uv (fun e=>by have:=(O8.o.aJ e.symm).1;have h2:=O6.o.aJ e.symm;omega));have P3:=q_ (R3.o.grown Uv (fun e=>by have h2:=O6.o.aJ e.symm;omega))
  have B9:=q_ (B8.o.trans Nv);have s9:=Uv.size;clear ho9 Nv Uv jb9;obtain⟨A9,c9,hv9⟩:=O9.o.shape;subst hv9;have jca:(Value.slice A9 l9.length c9).ownBlock≠some g:=fun e=>aD.fV O9.o K9.o (by decide) e;have z9:=K9.o.cell;go_wp2_with (refine bY rfl 25 (.tmp 75) (.tmp 74) rfl g 5 (.slice A9 l9.length c9) (by rfl) (by rfl) K9.o (by simp) (by kernel_rfl) (by rfl) ?_;intro wA kA gA;have KA_:=q_ (show ar wA g 27 #[.int .u8 (d.f.toNat:Int),.int .u8 (d.c.toNat:Int),.int .u8 (d.r.toNat:Int),.int .u8 (d.e.toNat:Int),.int .u8 (d.s.toNat:Int),.slice A9 l9.length c9] from kA);have OA:=q_ (O9.o.aK gA jca Be);have PA2:=q_ (P2.o.aK gA (by omega));have PA3:=q_ (P3.o.aK gA (by omega));have BA:=q_ (ai B9.o gA (by omega));have sA:=gA.size;clear kA gA z9;have zA:=KA_.o.cell;have z2:=PA2.o.cell);obtain⟨j,hj,hat⟩:=Hv;have Uw:=q_ hat;clear hat;have KJ:(l9).length<=1048576:=by omega
  have hown:=OA.o;obtain⟨ly,sr⟩:=hown.oh KJ;have OK3:=q_ ly;have S3:=q_ (show∀b,(S b\/(Value.slice A9 (l9).length c9).ownBlock=some b)->b<wA.heap.size from fun b h=>h.elim (OA.o.there b) (fun h=>(OA.o.aJ h).2));have SI:=q_ (uX d A9 c9 (l9) aN aP _ wA S3.o ly sr ⟨by omega,by omega⟩);rw[Uw.o] at SI
  obtain⟨g3,pW,hv3⟩:∃g3 pW,Value.slice A9 (l9).length c9= .slice (some ⟨g3,0,none⟩) (l9).length pW:=by
   rcases hown.form with⟨_,e⟩|⟨g3,pW,e,_⟩
   ·rw[e] at hj;simp at hj
   ·exact⟨g3,pW,e⟩
  injection hv3 with e1 _ e3;subst e1 e3;clear hown ly sr;have hg3:=OA.o.aJ (g:=g3) rfl;have jcb:¬S g3:=OA.o.apart g3 rfl;have Mb:g3≠w.heap.size+2:=fun e=>aD.fV OA.o PA3.o (by decide) (congrArg some e);have Hy:g3≠g:=fun e=>by subst e;exact aD.fV OA.o KA_.o (by decide) rfl
  generalize Hz:(l9)=ls at*;generalize Ed:ls.length=m3 at*;go_wp2_with fail;refine SI.o.mono ?_;rintro e wB ⟨rfl,js⟩;have BB:=q_ (BA.o.trans (js.mono BA.o.size));have KB:=q_ (KA_.o.below js KA_.o.lt);have OB:=q_ (OA.o.below js);have SJ:=q_ (PA2.o.below js PA2.o.lt);have Mc:=q_ (PA3.o.below js PA3.o.lt);have sB:=js.size;clear js SI S3 OK3;obtain⟨x,hx⟩:∃x,ls[j]? =some x:=⟨_,e_ (by omega)⟩
  obtain⟨XD,hr3,SD⟩:=OB.o.row;obtain⟨es,hR,hi⟩:=SD j x hx;obtain⟨Af,cf,rfl,hnx,xu,Jj⟩:=aX.inv hR;rw[Ed] at hr3;have Qg:XD[j*2+1]? =some (.slice Af x.fields.length cf):=hi 1 _ rfl;have Qh:wB.cell? ⟨g3,j*2+1,none⟩=some (.slice Af x.fields.length cf):=(hr3.cellAt _ (by have:=(g_ Qg).1;rwa [hr3.1] at this)).trans Qg;have f31:wB.frozen? ⟨g3,j*2+1,none⟩=false:=hr3.frozenAt _;have vN:g3<wB.heap.size:=(OB.o.aJ (g:=g3) rfl).2;have HLF:=q_ Jj;have HX:=q_ hx;have SB:=q_ (fun b (h:S b)=>OB.o.there b h);have KS:=q_ (fun(W:World) (h:Below wB.heap.size wB W)=>Ba aN aP aR rep comp sub HPO.o.2 (by omega) Yb.o.2 v hv Af x.fields.length cf x.fields S W (fun b hb=>l_ (SB.o b hb) h.size) xu (HLF.o.below h SB.o));clear hr3 SD hR hi Jj Qg hx;go_wp2_with fail
  refine aO 12 [] aj (fun
   |11=>some fun u w'=>∃A5 n5 c5 S5,u= .slice A5 n5 c5/\(∀b,S5 b->(S b\/wB.heap.size<=b)/\b<w'.heap.size)/\dR.R w' S5 [.slice A5 n5 c5] (M.with_ [] x.fields aR (yK rep comp sub v))
   |_=>none) (by kernel_rfl) (by kernel_rfl) aj.refl (by simp) (aj.draw _) aj.trans ?_ ?_
  ·intro j φ u x y hB hp jK
   split at hB<;>cases hB;obtain⟨A5,n5,c5,S5,e,h5,hr⟩:=hp;exact⟨A5,n5,c5,S5,e,fun b hb=>⟨(h5 b hb).1,l_ (h5 b hb).2 jK.size⟩,aU.below hr jK (fun b hb=>(h5 b hb).2)⟩
  iterate 11
   apply au rfl rfl
   ·intro vs wx hk K hK
    first
    |have c0:=fun i=>(KB.o.stays hk.1).cell i
     go_simp;exact hK _ (aj.refl _)
    |have c0:=(hk.1.cell (p:=⟨g3,j*2+1,none⟩) vN).trans Qh
     go_simp;exact hK _ (aj.refl _)
    |have c0:=fun i=>(SJ.o.stays hk.1).cell i
     go_simp;exact hK _ (aj.refl _)
   intro KK af;go_simp;refine af _ ?_;clear af KK
  refine bp rfl ?_ ?_
  ·intro vs wx hk K hK
   have C:=KS.o wx hk.1;go_simp;exact C.mono fun e w' ⟨u,he,hr,hb⟩=>by obtain⟨A5,n5,c5,rfl⟩:=bF (E:=cG) hr;exact⟨_,he,hK _ _ hb ⟨A5,n5,c5,_,rfl,fun b hb2=>hb2.elim (fun h=>⟨.inl h,by have:=SB.o b h;have:=hk.1.size;have:=hb.size;omega⟩) (fun h=>⟨.inr (t_ hk.1.size h.1),h.2⟩),hr⟩⟩
  intro KK af;go_simp;refine af _ ?_;clear af KK;refine bg ?_;intro vs wC xm hvC;obtain⟨A5,n5,c5,S5,e5,Md,Wb⟩:=hvC 11 _ (by omega) rfl;intro KK af;rw[e5];have BC:=q_ (Kn BB.o xm);have Ux:=q_ (KB.o.stays xm);have QC2:=q_ (SJ.o.stays xm);have Uy:=q_ (Mc.o.stays xm)
  have OC:=q_ ((OB.o.below xm).widen (S2:=S5) (fun b h=>(Md b h).2) (fun g' oC h=>by
   have h1:=(OB.o.aJ oC).2;rcases(Md g' h).1 with h2|h2
   ·exact OB.o.apart g' oC h2
   ·omega))
  have cC:=(xm.cell (p:=⟨g3,j*2+1,none⟩) vN).trans Qh;have fC:=(xm.frozen (p:=⟨g3,j*2+1,none⟩) vN).trans f31;have HS5:=q_ Md;have Ho:=q_ Wb;have sC:=xm.size;clear xm hvC e5 Md Wb Qh f31;simp only[List.drop_succ_cons];go_wp2_with (refine bH rfl 46 (.tmp 95) (.tmp 93) rfl g3 (j*2+1) (.slice A5 n5 c5) _ (by rfl) (by rfl) cC fC (by kernel_rfl) (by rfl) ?_;intro wD JD;have WD:=q_ JD;have KD:=q_ (show ar wD g _ _ from JD▸Ux.o.far (fun e=>Hy e.symm) _);have Qi:=q_ (show ar wD (w.heap.size+2) _ _ from JD▸Uy.o.far (fun e=>Mb e.symm) _);have zD:=KD.o.cell;clear JD z2);have sD:wD.heap.size=wC.heap.size:=by rw[WD.o];simp[World.setCell]
  have Wc:ls[j]? =some x:=HX.o
  have OD:=q_ (show aD aX 48 wD w.heap.size (fun b=>S b\/S5 b) (.slice (some ⟨g3,0,none⟩) m3 c9) (ls.set j (M.kp ⟨aN,aP,aR,rep,comp,sub⟩ v x)) by
   rw[WD.o]
   exact OC.o.put j 1 (by decide) (.slice A5 n5 c5) x _ Wc (fun es hes _=>by
    obtain⟨Ax,cx,rfl,Qj,_,_⟩:=aX.inv hes;show aX.R wC _ [.string x.name,.slice A5 n5 c5] _;exact aX.mk (s:=M.kp ⟨aN,aP,aR,rep,comp,sub⟩ v x) Qj (aU.wide Ho.o (fun b h=> .inr h))))
  have Ph:(ls.set j (M.kp ⟨aN,aP,aR,rep,comp,sub⟩ v x)).length=m3:=by rw[List.length_set,Ed]
  obtain⟨jC,gQ⟩:=OD.o.oh (by rw[Ph];exact KJ);have xG:=eP d _ _ _ _ wD jC gQ (fun b h=>h.elim (OD.o.there b) (fun h=>(OD.o.aJ h).2));rw[Ph] at xG
  have Qk:=q_ (show M.uL ⟨d,l⟩ ⟨aN,aP,aR,rep,comp,sub⟩ v=M.canon ⟨d,ls.set j (M.kp ⟨aN,aP,aR,rep,comp,sub⟩ v x)⟩ by
   rw[HM.o,ZR.o,Uw.o,Int.toNat_natCast,eT _ _ _ _ Wc])
  have BD:=q_ (show Below w.heap.size w wD by rw[WD.o];exact BC.o.setCell hg3.1 _);clear jC gQ zD;refine xG.mono ?_;rintro e wE ⟨A7,c7,rfl,mo,Ee,gW⟩;have BE:=q_ (BD.o.trans (gW.mono BD.o.size));have Ql:=q_ (Qi.o.below gW Qi.o.lt);have Qm:=q_ mo;have Qn:=q_ Ee;have sE:=gW.size;clear mo Ee gW xG;go_wp2_with (refine ah (cs':=#[.int .u8 (d.f.toNat:Int),.int .u8 (d.c.toNat:Int),.int .u8 (d.r.toNat:Int),.int .u8 (d.e.toNat:Int),.int .u8 (d.s.toNat:Int),.slice A7 (M.canon ⟨d,ls.set j (M.kp ⟨aN,aP,aR,rep,comp,sub⟩ v x)⟩).aH.length c7]) rfl 27 (.tmp 6) (.tmp 97) rfl (w.heap.size+2) (by rfl) (by rfl) Ql.o rfl (by kernel_rfl) (by simp[Value.oneCell']) ?_;intro wF kF gF;have KF:=q_ kF;have GF:=q_ gF;clear kF gF)
  (try simp only[Exit.inBlock,Exit.then]);refine bodyPost_ret (eH rfl KF.o rfl rfl rfl) rfl ?_;rw[Cp.o,Qk.o];exact bm.ok ⟨A7,c7,rfl,Qm.o,Qn.o.keep (fun b hb=>⟨by have:=hb.1;omega,by have:=hb.2;have:=GF.o.size;omega⟩) (fun p hp=>World.cell?_of_block (GF.o.block _ hp.2 (fun e=>by injection e with e;have:=hp.1;omega))),ai BE.o GF.o (by omega)⟩
 ·have q5:(aP==(n:Int)+1)=false:=by simp[h9]
  have Cp:=q_ (show M.lx ⟨d,l⟩ ⟨aN,aP,aR,rep,comp,sub⟩=0 by rw[HE1.o,if_neg h8,if_neg (fun h=>h9 h.1)]);have ZR:=q_ (show M.grown ⟨d,l⟩ ⟨aN,aP,aR,rep,comp,sub⟩=l by rw[HG.o,if_neg h9]);have Hv:∃j:Nat,j<l.length/\M.at0 l aN aP=(j:Int):=yN _ aN aP d h51 (by rw[HCN.o];omega);go_wp2_with fail
  refine aO 7 [] aj (fun
   |4=>some fun u w'=>∃A2 c2,u= .slice A2 l.length c2/\aD aX 48 w' w5.heap.size S (.slice A2 l.length c2) l
   |5=>some fun u w'=>∃A2 c2,u= .agg #[.int .u8 (d.f.toNat:Int),.int .u8 (d.c.toNat:Int),.int .u8 (d.r.toNat:Int),.int .u8 (d.e.toNat:Int),.int .u8 (d.s.toNat:Int),.slice A2 l.length c2]/\aD aX 48 w' w5.heap.size S (.slice A2 l.length c2) l
   |6=>some fun u w'=>∃g,u= .pointer (some ⟨g,0,none⟩)/\w5.heap.size<=g/\ar w' g 27 #[.int .u8 0,.int .u8 0,.int .u8 0,.int .u8 0,.int .u8 0,.slice none 0 0]
   |_=>none) (by kernel_rfl) (by kernel_rfl) aj.refl (by simp) (aj.draw _) aj.trans ?_ ?_
  ·intro j φ u x y hB hp jK
   split at hB<;>cases hB
   ·obtain⟨A2,c2,e,ho⟩:=hp
    exact⟨A2,c2,e,ho.below jK⟩
   ·obtain⟨A2,c2,e,ho⟩:=hp
    exact⟨A2,c2,e,ho.below jK⟩
   ·obtain⟨g,e,dS,hk⟩:=hp
    exact⟨g,e,dS,hk.stays jK⟩
  iterate 4
   apply au rfl rfl
   ·intro vs wx hk K hK
    have c0:=fun i=>(V1.o.stays hk.1).cell i;go_simp;exact hK _ (aj.refl _)
   intro KK af;go_simp;refine af _ ?_;clear af KK
  refine bp rfl ?_ ?_
  ·intro vs wx hk K hK
   have C:=KL.o wx (Kn B5.o hk.1);go_simp;exact C.mono fun x w' ⟨v,hx,ho,hb⟩=>by obtain⟨A2,c2,rfl⟩:=ho.shape;exact⟨_,hx,hK _ _ hb ⟨A2,c2,rfl,ho.base hk.1.size⟩⟩
  intro KK af;go_simp;refine af _ ?_;clear af KK;refine bp rfl ?_ ?_
  ·intro vs wx hk K hK
   obtain⟨A2,c2,e,ho⟩:=hk.2 4 _ rfl (by kernel_rfl);go_simp;exact hK _ _ (aj.refl _) ⟨A2,c2,rfl,ho⟩
  intro KK af;go_simp;refine af _ ?_;clear af KK;refine bp rfl ?_ ?_
  ·intro vs wx hk K hK
   go_simp;exact hK _ _ (aj.alloc _ _) ⟨_,rfl,hk.1.size,ar.new _ _ _⟩
  intro KK af;go_simp;refine af _ ?_;clear af KK;refine bg ?_;intro vs w6 jL Hw;obtain⟨A2,c2,e5,ud⟩:=Hw 5 _ (by omega) rfl;obtain⟨g,e6,jaQ,oH⟩:=Hw 6 _ (by omega) rfl;intro KK af;rw[e5,e6];have B6:=q_ (Kn B5.o jL);have U2:=q_ (V2.o.stays jL);have U3:=q_ (V3.o.stays jL);have O6:=q_ ud;have Qf:=q_ oH;have s6:=jL.size;have Ec:(Value.slice A2 l.length c2).ownBlock≠some g:=fun e=>aD.fV O6.o Qf.o (by decide) e;have Be:¬S g:=fun h=>by have:=HS.o _ h;omega
  clear jL Hw e5 e6 ud oH z1 z2;simp only[List.drop_succ_cons];refine ah (cs':=#[.int .u8 (d.f.toNat:Int),.int .u8 (d.c.toNat:Int),.int .u8 (d.r.toNat:Int),.int .u8 (d.e.toNat:Int),.int .u8 (d.s.toNat:Int),.slice A2 l.length c2]) rfl 27 (.tmp 10) (.tmp 61) rfl g (by rfl) (by rfl) Qf.o rfl (by kernel_rfl) (by simp[Value.oneCell']) ?_;intro w7 k7 g7;have K7:=q_ k7;have O7:=q_ ((O6.o.aK g7 Ec Be).base (show w.heap.size<=w5.heap.size by omega));have T2:=q_ (U2.o.aK g7 (by omega));have T3:=q_ (U3.o.aK g7 (by omega));have B7:=q_ (ai B6.o g7 (by omega));have s7:w5.heap.size<=w7.heap.size:=by have:=g7.size;omega
  clear k7 g7;have z2:=T2.o.cell;have z7:=K7.o.cell;obtain⟨j,hj,hat⟩:=Hv;have Uw:=q_ hat;clear hat;have KJ:(l).length<=1048576:=by omega
  have hown:=O7.o;obtain⟨ly,sr⟩:=hown.oh KJ;have OK3:=q_ ly;have S3:=q_ (show∀b,(S b\/(Value.slice A2 (l).length c2).ownBlock=some b)->b<w7.heap.size from fun b h=>h.elim (O7.o.there b) (fun h=>(O7.o.aJ h).2));have SI:=q_ (uX d A2 c2 (l) aN aP _ w7 S3.o ly sr ⟨by omega,by omega⟩);rw[Uw.o] at SI
  obtain⟨g3,pW,hv3⟩:∃g3 pW,Value.slice A2 (l).length c2= .slice (some ⟨g3,0,none⟩) (l).length pW:=by
   rcases hown.form with⟨_,e⟩|⟨g3,pW,e,_⟩
   ·rw[e] at hj;simp at hj
   ·exact⟨g3,pW,e⟩
  injection hv3 with e1 _ e3;subst e1 e3;clear hown ly sr;have hg3:=O7.o.aJ (g:=g3) rfl;have jcb:¬S g3:=O7.o.apart g3 rfl;have Mb:g3≠w.heap.size+2:=fun e=>aD.fV O7.o T3.o (by decide) (congrArg some e);have Hy:g3≠g:=fun e=>by subst e;exact aD.fV O7.o K7.o (by decide) rfl
  generalize Hz:(l)=ls at*;generalize Ed:ls.length=m3 at*;go_wp2_with fail;refine SI.o.mono ?_;rintro e wB ⟨rfl,js⟩;have BB:=q_ (B7.o.trans (js.mono B7.o.size));have KB:=q_ (K7.o.below js K7.o.lt);have OB:=q_ (O7.o.below js);have SJ:=q_ (T2.o.below js T2.o.lt);have Mc:=q_ (T3.o.below js T3.o.lt);have sB:=js.size;clear js SI S3 OK3;obtain⟨x,hx⟩:∃x,ls[j]? =some x:=⟨_,e_ (by omega)⟩
  obtain⟨XD,hr3,SD⟩:=OB.o.row;obtain⟨es,hR,hi⟩:=SD j x hx;obtain⟨Af,cf,rfl,hnx,xu,Jj⟩:=aX.inv hR;rw[Ed] at hr3;have Qg:XD[j*2+1]? =some (.slice Af x.fields.length cf):=hi 1 _ rfl;have Qh:wB.cell? ⟨g3,j*2+1,none⟩=some (.slice Af x.fields.length cf):=(hr3.cellAt _ (by have:=(g_ Qg).1;rwa [hr3.1] at this)).trans Qg;have f31:wB.frozen? ⟨g3,j*2+1,none⟩=false:=hr3.frozenAt _;have vN:g3<wB.heap.size:=(OB.o.aJ (g:=g3) rfl).2;have HLF:=q_ Jj;have HX:=q_ hx;have SB:=q_ (fun b (h:S b)=>OB.o.there b h);have KS:=q_ (fun(W:World) (h:Below wB.heap.size wB W)=>Ba aN aP aR rep comp sub HPO.o.2 (by omega) Yb.o.2 v hv Af x.fields.length cf x.fields S W (fun b hb=>l_ (SB.o b hb) h.size) xu (HLF.o.below h SB.o));clear hr3 SD hR hi Jj Qg hx;go_wp2_with fail
  refine aO 12 [] aj (fun
   |11=>some fun u w'=>∃A5 n5 c5 S5,u= .slice A5 n5 c5/\(∀b,S5 b->(S b\/wB.heap.size<=b)/\b<w'.heap.size)/\dR.R w' S5 [.slice A5 n5 c5] (M.with_ [] x.fields aR (yK rep comp sub v))
   |_=>none) (by kernel_rfl) (by kernel_rfl) aj.refl (by simp) (aj.draw _) aj.trans ?_ ?_
  ·intro j φ u x y hB hp jK
   split at hB<;>cases hB;obtain⟨A5,n5,c5,S5,e,h5,hr⟩:=hp;exact⟨A5,n5,c5,S5,e,fun b hb=>⟨(h5 b hb).1,l_ (h5 b hb).2 jK.size⟩,aU.below hr jK (fun b hb=>(h5 b hb).2)⟩
  iterate 11
   apply au rfl rfl
   ·intro vs wx hk K hK
    first
    |have c0:=fun i=>(KB.o.stays hk.1).cell i
     go_simp;exact hK _ (aj.refl _)
    |have c0:=(hk.1.cell (p:=⟨g3,j*2+1,none⟩) vN).trans Qh
     go_simp;exact hK _ (aj.refl _)
    |have c0:=fun i=>(SJ.o.stays hk.1).cell i
     go_simp;exact hK _ (aj.refl _)
   intro KK af;go_simp;refine af _ ?_;clear af KK
  refine bp rfl ?_ ?_
  ·intro vs wx hk K hK
   have C:=KS.o wx hk.1;go_simp;exact C.mono fun e w' ⟨u,he,hr,hb⟩=>by obtain⟨A5,n5,c5,rfl⟩:=bF (E:=cG) hr;exact⟨_,he,hK _ _ hb ⟨A5,n5,c5,_,rfl,fun b hb2=>hb2.elim (fun h=>⟨.inl h,by have:=SB.o b h;have:=hk.1.size;have:=hb.size;omega⟩) (fun h=>⟨.inr (t_ hk.1.size h.1),h.2⟩),hr⟩⟩
  intro KK af;go_simp;refine af _ ?_;clear af KK;refine bg ?_;intro vs wC xm hvC;obtain⟨A5,n5,c5,S5,e5,Md,Wb⟩:=hvC 11 _ (by omega) rfl;intro KK af;rw[e5];have BC:=q_ (Kn BB.o xm);have Ux:=q_ (KB.o.stays xm);have QC2:=q_ (SJ.o.stays xm);have Uy:=q_ (Mc.o.stays xm)
  have OC:=q_ ((OB.o.below xm).widen (S2:=S5) (fun b h=>(Md b h).2) (fun g' oC h=>by
   have h1:=(OB.o.aJ oC).2;rcases(Md g' h).1 with h2|h2
   ·exact OB.o.apart g' oC h2
   ·omega))
  have cC:=(xm.cell (p:=⟨g3,j*2+1,none⟩) vN).trans Qh;have fC:=(xm.frozen (p:=⟨g3,j*2+1,none⟩) vN).trans f31;have HS5:=q_ Md;have Ho:=q_ Wb;have sC:=xm.size;clear xm hvC e5 Md Wb Qh f31;simp only[List.drop_succ_cons];go_wp2_with (refine bH rfl 46 (.tmp 95) (.tmp 93) rfl g3 (j*2+1) (.slice A5 n5 c5) _ (by rfl) (by rfl) cC fC (by kernel_rfl) (by rfl) ?_;intro wD JD;have WD:=q_ JD;have KD:=q_ (show ar wD g _ _ from JD▸Ux.o.far (fun e=>Hy e.symm) _);have Qi:=q_ (show ar wD (w.heap.size+2) _ _ from JD▸Uy.o.far (fun e=>Mb e.symm) _);have zD:=KD.o.cell;clear JD z2);have sD:wD.heap.size=wC.heap.size:=by rw[WD.o];simp[World.setCell]
  have Wc:ls[j]? =some x:=HX.o
  have OD:=q_ (show aD aX 48 wD w.heap.size (fun b=>S b\/S5 b) (.slice (some ⟨g3,0,none⟩) m3 c2) (ls.set j (M.kp ⟨aN,aP,aR,rep,comp,sub⟩ v x)) by
   rw[WD.o]
   exact OC.o.put j 1 (by decide) (.slice A5 n5 c5) x _ Wc (fun es hes _=>by
    obtain⟨Ax,cx,rfl,Qj,_,_⟩:=aX.inv hes;show aX.R wC _ [.string x.name,.slice A5 n5 c5] _;exact aX.mk (s:=M.kp ⟨aN,aP,aR,rep,comp,sub⟩ v x) Qj (aU.wide Ho.o (fun b h=> .inr h))))
  have Ph:(ls.set j (M.kp ⟨aN,aP,aR,rep,comp,sub⟩ v x)).length=m3:=by rw[List.length_set,Ed]
  obtain⟨jC,gQ⟩:=OD.o.oh (by rw[Ph];exact KJ);have xG:=eP d _ _ _ _ wD jC gQ (fun b h=>h.elim (OD.o.there b) (fun h=>(OD.o.aJ h).2));rw[Ph] at xG
  have Qk:=q_ (show M.uL ⟨d,ls⟩ ⟨aN,aP,aR,rep,comp,sub⟩ v=M.canon ⟨d,ls.set j (M.kp ⟨aN,aP,aR,rep,comp,sub⟩ v x)⟩ by
   rw[HM.o,ZR.o,Uw.o,Int.toNat_natCast,eT _ _ _ _ Wc])
  have BD:=q_ (show Below w.heap.size w wD by rw[WD.o];exact BC.o.setCell hg3.1 _);clear jC gQ zD;refine xG.mono ?_;rintro e wE ⟨A7,c7,rfl,mo,Ee,gW⟩;have BE:=q_ (BD.o.trans (gW.mono BD.o.size));have Ql:=q_ (Qi.o.below gW Qi.o.lt);have Qm:=q_ mo;have Qn:=q_ Ee;have sE:=gW.size;clear mo Ee gW xG;go_wp2_with (refine ah (cs':=#[.int .u8 (d.f.toNat:Int),.int .u8 (d.c.toNat:Int),.int .u8 (d.r.toNat:Int),.int .u8 (d.e.toNat:Int),.int .u8 (d.s.toNat:Int),.slice A7 (M.canon ⟨d,ls.set j (M.kp ⟨aN,aP,aR,rep,comp,sub⟩ v x)⟩).aH.length c7]) rfl 27 (.tmp 6) (.tmp 97) rfl (w.heap.size+2) (by rfl) (by rfl) Ql.o rfl (by kernel_rfl) (by simp[Value.oneCell']) ?_;intro wF kF gF;have KF:=q_ kF;have GF:=q_ gF;clear kF gF)
  (try simp only[Exit.inBlock,Exit.then]);refine bodyPost_ret (eH rfl KF.o rfl rfl rfl) rfl ?_;rw[Cp.o,Qk.o];exact bm.ok ⟨A7,c7,rfl,Qm.o,Qn.o.keep (fun b hb=>⟨by have:=hb.1;omega,by have:=hb.2;have:=GF.o.size;omega⟩) (fun p hp=>World.cell?_of_block (GF.o.block _ hp.2 (fun e=>by injection e with e;have:=hp.1;omega))),ai BE.o GF.o (by omega)⟩
end Go.Proofs.YtpohlhkgbmdieaaGreatDoor
