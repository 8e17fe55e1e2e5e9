/- Part 27 of the proof. -/
import Derived.Test.YtpohlhkgbmdieaaGreatDoorW26
import Derived.Deep.DeepAppendRoom
set_option linter.unusedVariables false
set_option maxRecDepth 1000000
set_option maxHeartbeats 16000000
namespace Go.Proofs.YtpohlhkgbmdieaaGreatDoor
variable{F:Nat}{Mu S:Nat->Prop}{bs:List Nat}{c:M.Cx}{e:Ending}{g i:Nat}{k:Int}{n:Nat}{p p':PV}{r:Except Int M.St×Nat}{st JR:M.St}{u:Nat}{w w':World}
section
open Go Go.RowKit Go.BigFrame Go.Maps Go.WideMaps
theorem vY:∀d,Qc d
 |0=>UW
 |d+1=>MD d (vY d) (UB d (vY d) (j3 d)) (j3 d)
def EB(scopes:List M.Scope)(name:ByteArray)(i:Nat):Bool:=match scopes[i]?with|some s=>(s name).isSome|none=>false
def vZ(scopes:List M.Scope)(name:ByteArray)(k:Nat):Nat:=match(List.range k).reverse.find? (EB scopes name) with
 |some i=>i
 |none=>scopes.length-1
theorem wh(scopes:List M.Scope)(name:ByteArray)(v:M.Val):M.jT scopes name v=scopes.modify (vZ scopes name scopes.length) fun s=>fun n=>if n=name then some v else s n:=rfl
theorem yZ(scopes:List M.Scope)(name:ByteArray)(k:Nat):vZ scopes name (k+1)=if EB scopes name k=true then k else vZ scopes name k:=by
 unfold vZ;rw[List.range_succ,List.reverse_append,List.reverse_singleton,List.singleton_append,List.find?_cons];cases EB scopes name k<;>rfl
theorem JQ{scopes:List M.Scope}{name:ByteArray}(h:1<=scopes.length):∀k,k<=scopes.length->vZ scopes name k<scopes.length
 |0,_=>by show scopes.length-1<scopes.length;omega
 |k+1,hk=>by
  rw[yZ];split
  ·omega
  ·exact JQ h k (by omega)
theorem b9.jT{name:ByteArray}{v:M.Val}{b:Nat}{s:M.Scope}(h:b9 w g Mu S c st p bs)(hi:vZ st.scopes name st.scopes.length=i)(hb:bs[i]? =some b)(hs:st.scopes[i]? =some s)(hv:iF v)(hg:w.grownBy w' (some b))(hm:Hb w' b fun n=>if n=name then some v else s n):b9 w' g Mu S c {st with scopes:=M.jT st.scopes name v} p bs:=by
 have hbm:=h.mine b (m_ hb);have hS:∀q,S q->q<w.heap.size/\q≠b:=fun q hq=>⟨(h.far q hq).1,fun e=>(h.far q hq).2 (e▸hbm.1)⟩
 have keep:∀q,q<w.heap.size->q≠b->w'.heap[q]? =w.heap[q]? :=fun q hq hne=>hg.block q hq (fun e=>hne (by injection e));have hk:∀q:Addr,S q.block->w'.cell? q=w.cell? q:=fun q hq=>World.cell?_of_block (keep _ (hS _ hq).1 (hS _ hq).2);obtain⟨A,n,e1,e2,e3⟩:=h.msg;obtain⟨A2,n2,f1,f2,f3⟩:=h.tabs;obtain⟨m1,m2,m,m3⟩:=h.mx;have hlen:(M.jT st.scopes name v).length=st.scopes.length:=by rw[wh,List.length_modify]
 refine⟨h.d,h.now,h.stop,h.jU,⟨A,n,e1,e2,e3.keep (fun _ h=>h) hk⟩,⟨A2,n2,f1,f2,f3.keep (fun _ h=>h) hk⟩,h.routes.stay hg.size (fun q hq hc=>keep q hq (fun e=>hc.elim (fun x=>x.elim) (fun x=>hbm.2.2.2.2 (e▸x)))),
  h.scopes.stay hg.size (fun q hq hc=>keep q hq (fun e=>hc.elim (fun x=>x.elim) (fun x=>hbm.2.2.2.1 (e▸x)))),⟨by rw[h.maps.1];exact hlen.symm,fun j q z hq hz=> ?_⟩,h.apart,
  fun q hq=>⟨(h.mine q hq).1,l_ (h.mine q hq).2.1 hg.size,(h.mine q hq).2.2⟩,h.jV,h.jF,h.gM,fun q hq=>⟨l_ (h.far q hq).1 hg.size,(h.far q hq).2⟩,fun q hq=>l_ (h.mu q hq) hg.size,?_,h.fB,by show(M.jT st.scopes name v).length<=200;rw[hlen];exact h.gN,h.fT,
  ⟨l_ m1 hg.size,m2,m,(World.cell?_of_block (keep _ m1 (fun e=>m2 (by rw[show(0:Nat)=b from e];exact hbm.1)))).trans m3⟩⟩
 ·simp only[wh,hi,List.getElem?_modify] at hz
  by_cases hj:i=j
  ·subst hj
   rw[hs] at hz;rw[hb] at hq;cases hq;simp at hz;subst hz;exact hm
  ·have hz2:st.scopes[j]? =some z:=by
    cases Yw:st.scopes[j]?with
    |none=>rw[Yw] at hz;simp at hz
    |some y=>rw[Yw] at hz;simp[hj] at hz;rw[hz]
   have hqb:q≠b:=fun e=>by
    subst e;have h1:=(g_ hb)
    have h2:=(g_ hq)
    exact hj ((List.getElem_inj h.apart).1 (h1.2.trans h2.2.symm))
   exact(h.maps.2 j q z hq hz2).keep (keep q (h.mine q (m_ hq)).2.1 hqb)
 ·intro z hz n u hu
  rw[wh,hi] at hz;obtain⟨j,hj⟩:=List.getElem?_of_mem hz;rw[List.getElem?_modify] at hj;by_cases he:i=j
  ·subst he
   rw[hs] at hj;simp at hj;subst hj;simp only at hu;split at hu
   ·cases hu;exact hv
   ·exact h.vals s (m_ hs) n u hu
  ·have hz2:st.scopes[j]? =some z:=by
    cases Yw:st.scopes[j]?with
    |none=>rw[Yw] at hj;simp at hj
    |some y=>rw[Yw] at hj;simp[he] at hj;rw[hj]
   exact h.vals z (m_ hz2) n u hu
theorem Bq{mb:Nat}{f:M.Scope}{ops:Array Oper}{rest:List Oper}{o:Oper}{a:Act}{Q:Exit->Act->World->Prop}(hg:o.guard=none)(m x v:Operand)(hop:o.op=Op.mapUpdate 131 m x v)(h:Hb w mb f)(name:ByteArray)(hn:name.size<=1048576)(k:M.Val)(hm:a.eval m= .map (some mb))(hx:a.eval x= .string name)(hv:a.eval v=eh k)(hK:∀w',Hb w' mb (fun n=>if n=name then some k else f n)->w.grownBy w' (some mb)->wpList Tryz.prog ops Q rest (a.put o.dst undef) w'):wpList Tryz.prog ops Q (o::rest) a w:=by
 refine wpList_plain hg fun K' hK'=> ?_;obtain⟨w',hrun,r1,r2⟩:=cY.store h gq Tryz.underlying131 str_inj (gu name hn) (eh k)
 have r3:Hb w' mb (fun n=>if n=name then some k else f n):=r1.congr fun y=>by
  by_cases hy:y=name
  ·simp[hy]
  ·simp[hy]
 unfold Oper.wp;simp[execOp,hop,hm,hx,hv,hrun,Result.andThen];exact hK' _ _ (hK w' r3 r2)
theorem UY(g:Nat)(Mu S:Nat->Prop)(c:M.Cx)(st:M.St)(p:PV)(bs:List Nat)(F u:Nat)(name:ByteArray)(v:M.Val)(w:World)(hn:name.size<=1048576)(hv:iF v)(h1:1<=st.scopes.length)(hk:ar w g 64 #[.int .u8 (p.d.f.toNat:Int),.int .u8 (p.d.c.toNat:Int),.int .u8 (p.d.r.toNat:Int),.int .u8 (p.d.e.toNat:Int),.int .u8 (p.d.s.toNat:Int),p.v,p.tv,.string p.now,.int .i64 (F:Nat),.int .i64 (u:Nat),p.rv,.bool p.stop,p.sv])(hp:b9 w g Mu S c st p bs):
 Calls Tryz.prog 127 #[.pointer (some ⟨g,0,none⟩),.string name,.agg #[.int .i64 v.kind,.string v.text,.int .i64 v.num,.bool v.truth]] w fun e w'=>e= .returned (.tuple #[])/\ax Mu w w'/\b9 w' g Mu S c {st with scopes:=M.jT st.scopes name v} p bs/\ar w' g 64 #[.int .u8 (p.d.f.toNat:Int),.int .u8 (p.d.c.toNat:Int),.int .u8 (p.d.r.toNat:Int),.int .u8 (p.d.e.toNat:Int),.int .u8 (p.d.s.toNat:Int),p.v,p.tv,.string p.now,.int .i64 (F:Nat),.int .i64 (u:Nat),p.rv,.bool p.stop,p.sv]:=by
 obtain⟨A,nc,XM⟩:=Jz hp.scopes;have hsc:=hp.scopes;have hlen:=hp.maps.1;have hso:=hp.gN;have HK0:=q_ hk;rw[XM] at hk hsc;have HB:=q_ hk;have Lx:=q_ hsc;have HP:=q_ hp;have HV:=q_ hv;have VB1:=q_ (ar.new w 33 #[.int .i64 v.kind,.string v.text,.int .i64 v.num,.bool v.truth]);have B1:=q_ ((Below.refl _ w).alloc (n_) (.cells #[.int .i64 v.kind,.string v.text,.int .i64 v.num,.bool v.truth] 33));have z:=(hk.alloc (.cells #[.int .i64 v.kind,.string v.text,.int .i64 v.num,.bool v.truth] 33)).cell;clear hk hsc hp hv XM;go_enter Tryz.func127,Tryz.ntmps127;go_wp2_with fail;generalize w.alloc (.cells #[.int .i64 v.kind,.string v.text,.int .i64 v.num,.bool v.truth] 33)=w1 at VB1 B1 z⊢;clear z;go_loopw [6,21] (fun x y wr=>∃k:Nat,k<=st.scopes.length/\x= .int .i64 (vZ st.scopes name k)/\y= .int .i64 k/\Below w1.heap.size w1 wr) (fun x y _=>st.scopes.length-(intOf y).toNat)
 case atStart=>exact⟨0,Nat.zero_le _,by show Value.int .i64 _= .int .i64 ((st.scopes.length-1:Nat):Int);congr 1;omega,rfl,Below.refl _ _⟩
 case round=>
  obtain⟨k,hk,rfl,rfl,hb⟩:=hrel;have XN:=q_ hb;have BW:=q_ (B1.o.trans (hb.mono B1.o.size));have VBR:=q_ (VB1.o.below hb VB1.o.lt);clear hb;by_cases hlt:k<st.scopes.length
  ·have q1:decide ((k:Int)<(st.scopes.length:Int))=true:=by simp;omega
   have y:=(HB.o.below BW.o HB.o.lt).cell;have sc:=Lx.o.below BW.o;obtain⟨gs,cap,b,ub,e1,Nu,hbr,rf,-,-⟩:=sc.in1 (k:=k) rfl (by omega);injection e1 with e1 e2 e3;subst e1 e3;obtain⟨e4,-⟩:=hbr;simp at e4;subst e4;obtain⟨s,hs⟩:∃s,st.scopes[k]? =some s:=⟨_,e_ hlt⟩
   have XO:=(HP.o.maps.2 k b s Nu hs).below BW.o (HP.o.mine b (m_ Nu)).2.1;have hl:=XO.look gq Tryz.underlying131 str_inj (gu name hn) (Tryz.zeroValue33 wr) true;have h2:=yZ st.scopes name k;have hh:EB st.scopes name k=(s name).isSome:=by unfold EB;rw[hs]
   cases hq:s name with
   |some v0=>
    rw[hq] at hl hh;simp only[if_true,Option.map_some,Option.getD_some,Option.isSome_some,eh] at hl;have HE:=q_ (show vZ st.scopes name (k+1)=k by rw[h2,hh];rfl);clear hq h2 hh sc XO;go_wp2;go_roundw
    case rel=>exact⟨k+1,by omega,by rw[HE.o],by go_num,XN.o.alloc XN.o.size _⟩
    case measure=>simp[intOf];omega
   |none=>
    rw[hq] at hl hh;simp only[if_true,Option.map_none,Option.getD_none,Option.isSome_none] at hl;have HE:=q_ (show vZ st.scopes name (k+1)=vZ st.scopes name k by rw[h2,hh];rfl);clear hq h2 hh sc XO;go_wp2;go_roundw
    case rel=>exact⟨k+1,by omega,by rw[HE.o],by go_num,XN.o.alloc XN.o.size _⟩
    case measure=>simp[intOf];omega
  ·obtain rfl:k=st.scopes.length:=by omega
   have q1:decide ((st.scopes.length:Int)<(st.scopes.length:Int))=false:=by simp
   have hat:=JQ (name:=name) h1 st.scopes.length (n_);obtain⟨i,hi⟩:∃i,i=vZ st.scopes name st.scopes.length:=⟨_,rfl⟩
   have HI:=q_ hi;rw[<-hi] at hat⊢;clear hi;have sc:=Lx.o.below BW.o;obtain⟨gs,cap,b,ub,e1,Nu,hbr,rf,-,-⟩:=sc.in1 (k:=i) rfl (by omega);injection e1 with e1 e2 e3;subst e1 e3;obtain⟨e4,-⟩:=hbr;simp at e4;subst e4;obtain⟨s,hs⟩:∃s,st.scopes[i]? =some s:=⟨_,e_ hat⟩
   have HS:=q_ hs;have HBK:=q_ Nu;have GR:=q_ (HB.o.below BW.o HB.o.lt);have CB:=q_ (And.intro rf (show gs<wr.heap.size from by have:=(sc.aJ rfl).2;exact this));clear sc hs Nu rf;go_wp2_with fail;refine aO 9 [] aj (fun _=>none) (by kernel_rfl) (by kernel_rfl) aj.refl (by simp) (aj.draw _) aj.trans (fun j φ v x y hB=>by cases hB) ?_
   iterate 9
    apply au rfl rfl
    ·intro vs wx hk K hK
     first
     |have c0:=fun i=>(GR.o.stays hk.1).cell i
      go_simp;exact hK _ (aj.refl _)
     |have c0:=(hk.1.cell (p:=⟨gs,i,none⟩) CB.o.2).trans CB.o.1
      go_simp;exact hK _ (aj.refl _)
     |have c0:=fun i=>(VBR.o.stays hk.1).cell i
      go_simp;exact hK _ (aj.refl _)
    intro KK af;go_simp;refine af _ ?_;clear af KK
   refine bg ?_;intro vs w4 yb _;intro KK af;simp only[List.drop_succ_cons,List.drop_zero];have B4:=q_ (BW.o.trans (yb.mono BW.o.size));have P4:=q_ (HP.o.below B4.o);have G4:=q_ (HK0.o.below B4.o HK0.o.lt);clear yb;refine Bq rfl (.tmp 45) (.tmp 46) (.tmp 47) rfl (P4.o.maps.2 i b s HBK.o HS.o) name hn v (by rfl) (by rfl) (by rfl) ?_;intro w5 hm5 qJ;have T5:=q_ ((ax.of (Mu:=Mu) B4.o).grown (fun _=>(P4.o.mine b (m_ HBK.o)).1) qJ);have P5:=q_ (P4.o.jT HI.o.symm HBK.o HS.o HV.o qJ hm5);have G5:=q_ (G4.o.aK qJ (fun e=>(P4.o.mine b (m_ HBK.o)).2.2.1 e.symm));clear hm5 qJ;go_wp2;go_end0;exact⟨rfl,T5.o,P5.o,G5.o⟩
def cD(w:World)(g:Nat)(Mu:Nat->Prop)(c:M.Cx)(F:Nat)(r:Except Int M.St×Nat)(e:Ending)(w':World):Prop:=
 ax Mu w w'/\match r.1 with
  | .ok JR=>e= .returned (.tuple #[])/\∃(ml S':Nat->Prop) (p':PV) (JS:List Nat),b9 w' g ml S' c JR p' JS/\ar w' g 64 (p'.cells F r.2)/\(∀b,b<w.heap.size->ml b->Mu b)
  | .error k=>e=dt k/\∃p':PV,ar w' g 64 (p'.cells F r.2)
theorem cD.ok{ml S':Nat->Prop}{JS:List Nat}(hr:r=(.ok JR,u))(ht:ax Mu w w')(he:e= .returned (.tuple #[]))(hp:b9 w' g ml S' c JR p' JS)(hb:ar w' g 64 (p'.cells F u))(hm:∀b,b<w.heap.size->ml b->Mu b):cD w g Mu c F r e w':=by
 subst hr;exact⟨ht,he,ml,S',p',JS,hp,hb,hm⟩
theorem cD.err(hr:r=(.error k,u))(ht:ax Mu w w')(he:e=dt k)(hb:ar w' g 64 (p'.cells F u)):cD w g Mu c F r e w':=by
 subst hr;exact⟨ht,he,p',hb⟩
theorem cD.oV(h:cD w g Mu c F (.ok JR,u) e w'):ax Mu w w'/\e= .returned (.tuple #[])/\∃(ml S':Nat->Prop) (p':PV) (JS:List Nat),b9 w' g ml S' c JR p' JS/\ar w' g 64 (p'.cells F u)/\(∀b,b<w.heap.size->ml b->Mu b):=h
theorem cD.kJ(h:cD w g Mu c F (.error k,u) e w'):ax Mu w w'/\e=dt k/\∃p':PV,ar w' g 64 (p'.cells F u):=h
theorem aW.mu(h:aW g w w')(hg:Mu g):ax Mu w w':=ax.wide h (fun b _ e=>e▸hg)
theorem b9.jbd{m:M.dQ}{A:Option Addr}{S2:Nat->Prop}(h:b9 w g Mu S c st p bs)(hg:aW g w w')(aI:bX A m.aH.length n)(hl:bn aX w' S2 A m.aH.length m.aH)(hS:∀b,S2 b->b<w'.heap.size/\¬Mu b):
 b9 w' g Mu (fun b=>S b\/S2 b) c {st with m:=m} {p with d:=m.d,v:= .slice A m.aH.length n} bs:=by
 have h2:=h.only hg;obtain⟨A2,n2,f1,f2,f3⟩:=h2.tabs;exact⟨rfl,h2.now,h2.stop,h2.jU,⟨A,n,rfl,aI,hl.wide (fun b hb=> .inr hb)⟩,⟨A2,n2,f1,f2,f3.wide (fun b hb=> .inl hb)⟩,h2.routes,h2.scopes,h2.maps,h2.apart,h2.mine,h2.jV,h2.jF,h2.gM,fun b hb=>hb.elim (h2.far b) (hS b),h2.mu,h2.vals,h2.fB,h2.gN,h2.fT,h2.mx⟩
theorem ar.six{T:TypeId}{a0 a1 a2 a3 a4 a5 a6 a7 a8 a9 aA aB aC b0 b1 b2 b3 b4 b5:Value}(h:ar w g T #[a0,a1,a2,a3,a4,a5,a6,a7,a8,a9,aA,aB,aC]):ar (w.setCells g 0 [b0,b1,b2,b3,b4,b5]) g T #[b0,b1,b2,b3,b4,b5,a6,a7,a8,a9,aA,aB,aC]:=by
 have h1:=(((((h.fK 0 b0).fK 1 b1).fK 2 b2).fK 3 b3).fK 4 b4).fK 5 b5;exact h1
theorem y7(g:Nat)(er:Int)(w:World)(he:er≠0):Calls Tryz.prog 122 #[.pointer (some ⟨g,0,none⟩),.agg #[.int .u8 0,.int .u8 0,.int .u8 0,.int .u8 0,.int .u8 0,.slice none 0 0],.int .i64 er] w fun e w'=>e=dt er/\Below w.heap.size w w':=by
 have B1:=q_ ((Below.refl _ w).alloc (n_) (.cells #[.int .u8 0,.int .u8 0,.int .u8 0,.int .u8 0,.int .u8 0,.slice none 0 0] 27));have HE:=q_ he;clear he;go_enter Tryz.func122,Tryz.ntmps122;go_wp2_with fail;refine(vo er HE.o _).mono ?_
 rintro e w2 ⟨rfl,h2⟩;have h2:=h2.symm;subst h2;unfold dt;go_wp2;exact⟨rfl,rfl,B1.o⟩
theorem wj(g:Nat)(Mu S:Nat->Prop)(c:M.Cx)(st:M.St)(p:PV)(bs:List Nat)(F u:Nat)(m:M.dQ)(A:Option Addr)(n:Nat)(S2:Nat->Prop)(w:World)(aI:bX A m.aH.length n)(hl:bn aX w S2 A m.aH.length m.aH)(hS:∀b,S2 b->b<w.heap.size/\¬Mu b)(hk:ar w g 64 #[.int .u8 (p.d.f.toNat:Int),.int .u8 (p.d.c.toNat:Int),.int .u8 (p.d.r.toNat:Int),.int .u8 (p.d.e.toNat:Int),.int .u8 (p.d.s.toNat:Int),p.v,p.tv,.string p.now,.int .i64 (F:Nat),.int .i64 (u:Nat),p.rv,.bool p.stop,p.sv])(hp:b9 w g Mu S c st p bs):
 Calls Tryz.prog 122 #[.pointer (some ⟨g,0,none⟩),.agg #[.int .u8 (m.d.f.toNat:Int),.int .u8 (m.d.c.toNat:Int),.int .u8 (m.d.r.toNat:Int),.int .u8 (m.d.e.toNat:Int),.int .u8 (m.d.s.toNat:Int),.slice A m.aH.length n],.int .i64 0] w fun e w'=>e= .returned (.tuple #[])/\aW g w w'/\b9 w' g Mu (fun b=>S b\/S2 b) c {st with m:=m} {p with d:=m.d,v:= .slice A m.aH.length n} bs/\ar w' g 64 (PV.cells {p with d:=m.d,v:= .slice A m.aH.length n} F u):=by
 have B1:=q_ ((Below.refl _ w).alloc (n_) (.cells #[.int .u8 (m.d.f.toNat:Int),.int .u8 (m.d.c.toNat:Int),.int .u8 (m.d.r.toNat:Int),.int .u8 (m.d.e.toNat:Int),.int .u8 (m.d.s.toNat:Int),.slice A m.aH.length n] 27));have MB:=q_ (ar.new w 27 #[.int .u8 (m.d.f.toNat:Int),.int .u8 (m.d.c.toNat:Int),.int .u8 (m.d.r.toNat:Int),.int .u8 (m.d.e.toNat:Int),.int .u8 (m.d.s.toNat:Int),.slice A m.aH.length n]);have G1:=q_ (hk.alloc (.cells #[.int .u8 (m.d.f.toNat:Int),.int .u8 (m.d.c.toNat:Int),.int .u8 (m.d.r.toNat:Int),.int .u8 (m.d.e.toNat:Int),.int .u8 (m.d.s.toNat:Int),.slice A m.aH.length n] 27));have HP:=q_ hp;have HL:=q_ hl;have nk:=q_ aI;have HS:=q_ hS;have HG:=q_ hk.lt;have Ou:=q_ (show∀b,S2 b->b≠g from fun b hb e=>(hS b hb).2 (e▸hp.gM));clear hk hp hl aI hS;go_enter Tryz.func122,Tryz.ntmps122;go_wp2_with fail;refine(q9 _).mono ?_
 rintro e w2 ⟨rfl,h2⟩;have h2:=h2.symm;subst h2;generalize w.alloc (.cells #[.int .u8 (m.d.f.toNat:Int),.int .u8 (m.d.c.toNat:Int),.int .u8 (m.d.r.toNat:Int),.int .u8 (m.d.e.toNat:Int),.int .u8 (m.d.s.toNat:Int),.slice A m.aH.length n] 27)=w1 at B1 MB G1⊢;have zm:=MB.o.cell;have K5:=G1.o.six (b0:= .int .u8 (m.d.f.toNat:Int)) (b1:= .int .u8 (m.d.c.toNat:Int)) (b2:= .int .u8 (m.d.r.toNat:Int)) (b3:= .int .u8 (m.d.e.toNat:Int)) (b4:= .int .u8 (m.d.s.toNat:Int)) (b5:= .slice A m.aH.length n);have G5:=dL g [.int .u8 (m.d.f.toNat:Int),.int .u8 (m.d.c.toNat:Int),.int .u8 (m.d.r.toNat:Int),.int .u8 (m.d.e.toNat:Int),.int .u8 (m.d.s.toNat:Int),.slice A m.aH.length n] 0 w1;have zg:=G1.o.cell;have fg:=G1.o.frozen;go_wp2;go_end0;have O5:aW g w (w1.setCells g 0 [.int .u8 (m.d.f.toNat:Int),.int .u8 (m.d.c.toNat:Int),.int .u8 (m.d.r.toNat:Int),.int .u8 (m.d.e.toNat:Int),.int .u8 (m.d.s.toNat:Int),.slice A m.aH.length n]):=(ax.of (Mu:=fun b=>b=g) B1.o).grown (fun _=>rfl) G5;exact⟨rfl,O5,HP.o.jbd O5 nk.o (O5.nu HL.o (fun b hb=>⟨(HS.o b hb).1,Ou.o b hb⟩)) (fun b hb=>⟨l_ (HS.o b hb).1 O5.size,(HS.o b hb).2⟩),K5⟩
namespace M
def iB(c:Cx)(d:Nat)(s:St)(x:Node)(ks:List Tree):Except Int St×Nat:=
 if x.op=1 then
  match aL c s.m s.scopes d (kid ks 0) with
  |(.error e,k)=>(.error e,k)
  |(.ok v,k)=>
   if v.truth=true then(match aQ c d s (kid ks 1) with|(r,j)=>(r,k+j))
   else if 2<ks.length then(match aQ c d s (kid ks 2) with|(r,j)=>(r,k+j))
   else(.ok s,k)
 else if x.op=2 then
  match aL c s.m s.scopes d (kid ks 0) with
  |(.error e,k)=>(.error e,k)
  |(.ok v,k)=>(if lx s.m x.path≠0 then .error (lx s.m x.path) else .ok {s with m:=uL s.m x.path v.text},k)
 else if x.op=3 then(if asked s.m x.path true≠0 then .error (asked s.m x.path true) else .ok {s with m:=qR s.m x.path},0)
 else if x.op=4 then
  match aL c s.m s.scopes d (kid ks 0) with
  |(.error e,k)=>(.error e,k)
  |(.ok v,k)=>(.ok {s with scopes:=jT s.scopes x.text v},k)
 else if x.op=5 then(.ok {s with routes:=if fo s.routes x.text=true then s.routes else s.routes++[x.text]},0)
 else(.ok {s with stopped:=true},0)
theorem wk{c:Cx}{d:Nat}{s:St}{x:Node}{ks:List Tree}(h:x.op≠0):aQ c (d+1) s (.mk x ks)=((iB c d s x ks).1,(iB c d s x ks).2+1):=by
 conv=>lhs;unfold aQ
 rw[if_neg h];unfold iB;split
 ·cases aL c s.m s.scopes d (kid ks 0) with
  |mk r k=>
   cases r with
   |error e=>rfl
   |ok v=>
    simp only;split
    ·rfl
    ·split<;>rfl
 ·split
  ·cases aL c s.m s.scopes d (kid ks 0) with
   |mk r k=>cases r<;>rfl
  ·split
   ·rfl
   ·split
    ·cases aL c s.m s.scopes d (kid ks 0) with
     |mk r k=>cases r<;>rfl
    ·split<;>rfl
theorem iZ{α β:Type}{F U:Nat}{r:Except Int α×Nat}{y:Except Int α}{u2:Nat}{R:Except Int β×Nat}(h:cut F U r=(y,u2))(jbe:r.2<=R.2):
 (∀e,y= .error e->(∀k,r=(.error e,k)->R=(.error e,k))->cut F U R=(.error e,u2))/\∀a,y= .ok a->∃k,r=(.ok a,k)/\u2=U+k/\U+k<=F:=by
 obtain⟨r,k⟩:=r;by_cases hq:U+k<=F
 ·rw[bZ hq] at h
  injection h with h1 h2;simp only at h1 h2;refine⟨fun e he hR=> ?_,fun a ha=>⟨k,by rw[<-ha,<-h1],h2.symm,hq⟩⟩;rw[hR k (by rw[h1,he]),bZ hq,<-h2]
 ·rw[eQ hq] at h
  injection h with h1 h2;refine⟨fun e he _=> ?_,fun a ha=> ?_⟩
  ·subst he
   cases h1;rw[eQ (by simp only at jbe;omega),<-h2]
  ·subst ha
   cases h1
theorem j4{c:Cx}{d:Nat}{s:St}{x:Node}{ks:List Tree}(h:x.op=1\/x.op=2\/x.op=4):(aL c s.m s.scopes d (kid ks 0)).2<=(iB c d s x ks).2:=by
 unfold iB;cases aL c s.m s.scopes d (kid ks 0) with
 |mk r k=>
  rcases h with h|h|h
  ·rw[if_pos h]
   cases r with
   |error e=>exact n_
   |ok v=>
    simp only;split
    ·cases aQ c d s (kid ks 1);simp
    ·split
     ·cases aQ c d s (kid ks 2);simp
     ·exact n_
  ·rw[if_neg (by omega),if_pos h]
   cases r<;>exact n_
  ·rw[if_neg (by omega),if_neg (by omega),if_neg (by omega),if_pos h]
   cases r<;>exact n_
theorem Br{c:Cx}{d:Nat}{s:St}{x:Node}{ks:List Tree}{e:Int}(h:x.op=1\/x.op=2\/x.op=4)(k:Nat)(hr:aL c s.m s.scopes d (kid ks 0)=(.error e,k)):iB c d s x ks=(.error e,k):=by
 unfold iB;rw[hr];rcases h with h|h|h
 ·rw[if_pos h]
 ·rw[if_neg (by omega),if_pos h]
 ·rw[if_neg (by omega),if_neg (by omega),if_neg (by omega),if_pos h]
end M
structure xL(w:World)(g pb lb xb:Nat)(Mu S SP:Nat->Prop)(c:M.Cx)(st:M.St)(p:PV)(bs:List Nat)(F u:Nat)(x:M.Node)(ks:List M.Tree)(A1:Option Addr)(c1:Nat):Prop where
 pl:b9 w g Mu S c st p bs
 gb:ar w g 64 (p.cells F u)
 FK:ar w pb 58 #[.pointer (some ⟨g,0,none⟩)]
 SY:ar w lb 132 #[.slice A1 ks.length c1]
 Q9:ar w xb 129 #[.int .i64 x.op,.int .i64 x.n,.string x.text,.int .i64 x.num,.string x.path.aN,.int .i64 x.path.aP,.int .i64 x.path.aR,.int .i64 x.path.rep,.int .i64 x.path.comp,.int .i64 x.path.sub]
 far:¬Mu pb/\¬Mu lb/\¬Mu xb
 x64:x.jd
 ok:bX A1 ks.length c1
 nu:bn jB w SP A1 ks.length (ks.map M.flat)
 sp:∀b,SP b->b<w.heap.size/\¬Mu b
 uF:u<=F
 hF:F<=2000
 sc:1<=st.scopes.length
 ro:st.routes.length<=u
theorem xL.gM{w:World}{g pb lb xb:Nat}{Mu S SP:Nat->Prop}{c:M.Cx}{st:M.St}{p:PV}{bs:List Nat}{F u:Nat}{x:M.Node}{ks:List M.Tree}{A1:Option Addr}{c1:Nat}(h:xL w g pb lb xb Mu S SP c st p bs F u x ks A1 c1):Mu g/\g<w.heap.size/\pb≠g/\lb≠g/\xb≠g/\∀b,SP b->b≠g:=
 ⟨h.pl.gM,h.gb.lt,fun e=>h.far.1 (e▸h.pl.gM),fun e=>h.far.2.1 (e▸h.pl.gM),fun e=>h.far.2.2 (e▸h.pl.gM),fun b hb e=>(h.sp b hb).2 (e▸h.pl.gM)⟩
theorem b9.stop'{w w':World}{g:Nat}{Mu S:Nat->Prop}{c:M.Cx}{st:M.St}{p:PV}{bs:List Nat}(h:b9 w g Mu S c st p bs)(hg:aW g w w'):b9 w' g Mu S c {st with stopped:=true} {p with stop:=true} bs:=by
 have h2:=h.only hg;exact⟨h2.d,h2.now,rfl,h2.jU,h2.msg,h2.tabs,h2.routes,h2.scopes,h2.maps,h2.apart,h2.mine,h2.jV,h2.jF,h2.gM,h2.far,h2.mu,h2.vals,h2.fB,h2.gN,h2.fT,h2.mx⟩
theorem UZ{w:World}{g pb lb xb:Nat}{Mu S SP:Nat->Prop}{c:M.Cx}{st:M.St}{p:PV}{bs:List Nat}{F u d:Nat}{x:M.Node}{ks:List M.Tree}{A1:Option Addr}{c1:Nat}(h:xL w g pb lb xb Mu S SP c st p bs F u x ks A1 c1)(hop:x.op=6):
 Calls Tryz.prog 130 #[.pointer (some ⟨pb,0,none⟩)] w (cD w g Mu c F (M.cut F u (M.iB c d st x ks))):=by
 have LAW:=q_ (show M.cut F u (M.iB c d st x ks)=(.ok {st with stopped:=true},u) by
  have h1:M.iB c d st x ks=(.ok {st with stopped:=true},0):=by unfold M.iB;rw[if_neg (by omega),if_neg (by omega),if_neg (by omega),if_neg (by omega),if_neg (by omega)]
  rw[h1,M.bZ (by show u+0<=F;have:=h.uF;omega)];rfl)
 have H:=q_ h;have zp:=h.FK.cell;have zg:=h.gb.cell;have fg:=h.gb.frozen;unfold PV.cells at zg;clear h;go_enter Tryz.func130,Tryz.ntmps130;go_wp2;go_end0;have g1:=aV w g 11 (.bool true);have O1:aW g w (w.setCell ⟨g,11,none⟩ (.bool true)):=(ax.refl _ w).grown (fun _=>rfl) g1;exact cD.ok LAW.o (O1.mu H.o.pl.gM) rfl (H.o.pl.stop' O1) (H.o.gb.fK 11 (.bool true)) (fun _ _ h=>h)
structure EI(W0:World)(g:Nat)(p:PV)(F u u2 ie:Nat)(L:Nat->Bool)(vs:Nat->Value)(w:World):Prop where
 turns:aW g W0 w
 blk:ar w g 64 (p.cells F (if L ie=true then u2 else u))
section
variable {W0 w w':World} {g:Nat} {p:PV} {F u u2 ie ic:Nat} {L:Nat->Bool} {vs:Nat->Value} {m:M.dQ}
theorem EI.start(hk:ar W0 g 64 (p.cells F u)):EI W0 g p F u u2 ie (fun _=>false) vs {W0 with drawn:=W0.drawn+1}:=⟨⟨rfl,rfl,rfl,n_,fun _ _ _=>rfl⟩,hk⟩
theorem EI.pure(h:EI W0 g p F u u2 ie L vs w){k:Nat}{x:Value}(hk:k≠ie):EI W0 g p F u u2 ie (upd L k) (aS vs k x) w:=by
 have e:upd L k ie=L ie:=by simp[upd,Ne.symm hk]
 exact⟨h.turns,by rw[e];exact h.blk⟩
theorem EI.on(h:EI W0 g p F u u2 ie L vs w){k:Nat}{x:Value}(hk:k≠ie)(hb:Below w.heap.size w w'):EI W0 g p F u u2 ie (upd L k) (aS vs k x) w':=by
 have e:upd L k ie=L ie:=by simp[upd,Ne.symm hk]
 exact⟨h.turns.on hb,by rw[e];exact h.blk.below hb h.blk.lt⟩
theorem EI.call(h:EI W0 g p F u u2 ie L vs w){x:Value}(h2:aW g w w')(hk:ar w' g 64 (p.cells F u2)):EI W0 g p F u u2 ie (upd L ie) (aS vs ie x) w':=⟨h.turns.tr h2,by simpa[upd] using hk⟩
structure CI(W0:World)(g:Nat)(p:PV)(F u u2 ie ic:Nat)(m:M.dQ)(L:Nat->Bool)(vs:Nat->Value)(w:World):Prop where
 ei:EI W0 g p F u u2 ie L vs w
 one:L ic=true->∃A n,vs ic= .tuple #[.agg #[.int .u8 (m.d.f.toNat:Int),.int .u8 (m.d.c.toNat:Int),.int .u8 (m.d.r.toNat:Int),.int .u8 (m.d.e.toNat:Int),.int .u8 (m.d.s.toNat:Int),.slice A m.aH.length n],.int .i64 0]/\bX A m.aH.length n/\bn aX w (New W0 w) A m.aH.length m.aH/\(L (ic+1)=true->vs (ic+1)= .agg #[.int .u8 (m.d.f.toNat:Int),.int .u8 (m.d.c.toNat:Int),.int .u8 (m.d.r.toNat:Int),.int .u8 (m.d.e.toNat:Int),.int .u8 (m.d.s.toNat:Int),.slice A m.aH.length n])/\(L (ic+2)=true->vs (ic+2)= .int .i64 0)
 w1:L (ic+1)=true->L ic=true
 w2:L (ic+2)=true->L ic=true
theorem CI.start(hk:ar W0 g 64 (p.cells F u)):CI W0 g p F u u2 ie ic m (fun _=>false) vs {W0 with drawn:=W0.drawn+1}:=⟨EI.start hk,(fun h=>by cases h),(fun h=>by cases h),(fun h=>by cases h)⟩
theorem New.WC{a b c:World}(h:b.heap.size<=c.heap.size):∀q,New a b q->New a c q:=fun q hq=>⟨hq.1,l_ hq.2 h⟩
theorem CI.pure(h:CI W0 g p F u u2 ie ic m L vs w){k:Nat}{x:Value}(hk:k≠ie)(h0:k≠ic)(h1:k≠ic+1)(h2:k≠ic+2):CI W0 g p F u u2 ie ic m (upd L k) (aS vs k x) w:=by
 have e0:upd L k ic=L ic:=by simp[upd,Ne.symm h0]
 have e1:upd L k (ic+1)=L (ic+1):=by simp[upd,Ne.symm h1]
 have e2:upd L k (ic+2)=L (ic+2):=by simp[upd,Ne.symm h2]
 have v0:aS vs k x ic=vs ic:=by simp[aS,Ne.symm h0]
 have v1:aS vs k x (ic+1)=vs (ic+1):=by simp[aS,Ne.symm h1]
 have v2:aS vs k x (ic+2)=vs (ic+2):=by simp[aS,Ne.symm h2]
 exact⟨h.ei.pure hk,by rw[e0,e1,e2,v0,v1,v2];exact h.one,by rw[e0,e1];exact h.w1,by rw[e0,e2];exact h.w2⟩
theorem CI.call(h:CI W0 g p F u u2 ie ic m L vs w){x:Value}(hg:g<W0.heap.size)(h0:ie≠ic)(h1:ie≠ic+1)(h2:ie≠ic+2)(ho:aW g w w')(hk:ar w' g 64 (p.cells F u2)):CI W0 g p F u u2 ie ic m (upd L ie) (aS vs ie x) w':=by
 have e0:upd L ie ic=L ic:=by simp[upd,Ne.symm h0]
 have e1:upd L ie (ic+1)=L (ic+1):=by simp[upd,Ne.symm h1]
 have e2:upd L ie (ic+2)=L (ic+2):=by simp[upd,Ne.symm h2]
 have v0:aS vs ie x ic=vs ic:=by simp[aS,Ne.symm h0]
 have v1:aS vs ie x (ic+1)=vs (ic+1):=by simp[aS,Ne.symm h1]
 have v2:aS vs ie x (ic+2)=vs (ic+2):=by simp[aS,Ne.symm h2]
 refine⟨h.ei.call ho hk,?_,by rw[e0,e1];exact h.w1,by rw[e0,e2];exact h.w2⟩;rw[e0,e1,e2,v0,v1,v2];intro hl;obtain⟨A,n,a1,a2,a3,a4⟩:=h.one hl;exact⟨A,n,a1,a2,(ho.nu a3 (fun b hb=>⟨hb.2,by have:=hb.1;omega⟩)).wide (New.WC ho.size),a4⟩
theorem CI.give(h:CI W0 g p F u u2 ie ic m L vs w){A:Option Addr}{n:Nat}(hL:L ic=false)(hne:ie≠ic)(hb:Below w.heap.size w w')(aI:bX A m.aH.length n)(hl:bn aX w' (New w w') A m.aH.length m.aH):CI W0 g p F u u2 ie ic m (upd L ic) (aS vs ic (.tuple #[.agg #[.int .u8 (m.d.f.toNat:Int),.int .u8 (m.d.c.toNat:Int),.int .u8 (m.d.r.toNat:Int),.int .u8 (m.d.e.toNat:Int),.int .u8 (m.d.s.toNat:Int),.slice A m.aH.length n],.int .i64 0])) w':=by
 have e1:upd L ic (ic+1)=L (ic+1):=by simp[upd]
 have e2:upd L ic (ic+2)=L (ic+2):=by simp[upd]
 have n1:L (ic+1)=false:=by cases hq:L (ic+1) with|false=>rfl|true=>rw[h.w1 hq] at hL;cases hL
 have n2:L (ic+2)=false:=by cases hq:L (ic+2) with|false=>rfl|true=>rw[h.w2 hq] at hL;cases hL
 refine⟨h.ei.on (Ne.symm hne) hb,fun _=>⟨A,n,by simp[aS],aI,hl.wide (fun b hb2=>⟨t_ h.ei.turns.size hb2.1,hb2.2⟩),fun hq=> ?_,fun hq=> ?_⟩,fun _=>by simp[upd],fun _=>by simp[upd]⟩
 ·rw[e1,n1] at hq;cases hq
 ·rw[e2,n2] at hq;cases hq
theorem CI.WE(h:CI W0 g p F u u2 ie ic m L vs w){A:Option Addr}{n:Nat}(hL:L ic=true)(hv:vs ic= .tuple #[.agg #[.int .u8 (m.d.f.toNat:Int),.int .u8 (m.d.c.toNat:Int),.int .u8 (m.d.r.toNat:Int),.int .u8 (m.d.e.toNat:Int),.int .u8 (m.d.s.toNat:Int),.slice A m.aH.length n],.int .i64 0])(hne:ie≠ic+1):CI W0 g p F u u2 ie ic m (upd L (ic+1)) (aS vs (ic+1) (.agg #[.int .u8 (m.d.f.toNat:Int),.int .u8 (m.d.c.toNat:Int),.int .u8 (m.d.r.toNat:Int),.int .u8 (m.d.e.toNat:Int),.int .u8 (m.d.s.toNat:Int),.slice A m.aH.length n])) w:=by
 have e0:upd L (ic+1) ic=L ic:=by simp[upd]
 have e2:upd L (ic+1) (ic+2)=L (ic+2):=by simp[upd]
 have v0:aS vs (ic+1) (.agg #[.int .u8 (m.d.f.toNat:Int),.int .u8 (m.d.c.toNat:Int),.int .u8 (m.d.r.toNat:Int),.int .u8 (m.d.e.toNat:Int),.int .u8 (m.d.s.toNat:Int),.slice A m.aH.length n]) ic=vs ic:=by simp[aS]
 have v2:aS vs (ic+1) (.agg #[.int .u8 (m.d.f.toNat:Int),.int .u8 (m.d.c.toNat:Int),.int .u8 (m.d.r.toNat:Int),.int .u8 (m.d.e.toNat:Int),.int .u8 (m.d.s.toNat:Int),.slice A m.aH.length n]) (ic+2)=vs (ic+2):=by simp[aS]
 obtain⟨A',n',a1,a2,a3,a4,a5⟩:=h.one hL;rw[hv] at a1;have:A'=A/\n'=n:=by simp at a1;exact⟨a1.1.symm,a1.2.symm⟩
 obtain⟨rfl,rfl⟩:=this;exact⟨h.ei.pure (Ne.symm hne),fun _=>⟨A',n',by rw[v0];exact hv,a2,a3,fun _=>by simp[aS],by rw[e2,v2];exact a5⟩,fun _=>by rw[e0];exact hL,by rw[e0,e2];exact h.w2⟩
theorem CI.WG(h:CI W0 g p F u u2 ie ic m L vs w)(hL:L ic=true)(hne:ie≠ic+2):CI W0 g p F u u2 ie ic m (upd L (ic+2)) (aS vs (ic+2) (.int .i64 0)) w:=by
 have e0:upd L (ic+2) ic=L ic:=by simp[upd]
 have e1:upd L (ic+2) (ic+1)=L (ic+1):=by simp[upd]
 have v0:aS vs (ic+2) (.int .i64 0) ic=vs ic:=by simp[aS]
 have v1:aS vs (ic+2) (.int .i64 0) (ic+1)=vs (ic+1):=by simp[aS]
 obtain⟨A',n',a1,a2,a3,a4,a5⟩:=h.one hL;exact⟨h.ei.pure (Ne.symm hne),fun _=>⟨A',n',by rw[v0];exact a1,a2,a3,by rw[e1,v1];exact a4,fun _=>by simp[aS]⟩,by rw[e0,e1];exact h.w1,fun _=>by rw[e0];exact hL⟩
end
end
section
open Go Go.RowKit Go.BigFrame
theorem oq{P:Program}(w:World)(t e ty:TypeId)(z:Value)(ht:P.underlying t=some (.slice e))(hv:∀w,(zeroValue e).run P w= .ok z w)(h1:∀u∈z.cells.toList,u.oneCell'=true)(b o c:Nat)(hc:∀j,j<z.cells.size->(w.cell? ⟨b,o+j,none⟩).isSome=true)(hf:∀j,j<z.cells.size->w.frozen? ⟨b,o+j,none⟩=false):
 (Builtin.clear_ #[t] ty #[.slice (some ⟨b,o,none⟩) 1 c]).run P w= .ok (.tuple #[]) (w.setCells b o z.cells.toList):=by
 have hzc:(Builtin.zeroCells z.cells 1).toList=z.cells.toList:=by
  unfold Builtin.zeroCells;apply List.ext_getElem
  ·simp
  ·intro i h1 h2
   simp at h2;simp[Nat.mod_eq_of_lt h2,getElem!_pos z.cells i h2]
 have hst:=run_storeCells_cells (P:=P) b o z.cells.toList 0 w (by simpa using hc) (by simpa using hf) h1;simp only[Nat.add_zero] at hst;simp[Builtin.clear_,run_underlying ht,hv,hzc,hst]
theorem EC{xs:List M.Seg}{c k B:Nat}{w7:World}{cur:Array Value}{cs:List Value}(x9:xs.length=n)(hr:cs.length=n*2)(he:∀j x,xs[j]? =some x->∃es,aX.R w S es x/\∀t u,es[t]? =some u->cs[j*aX.n+t]? =some u)(hap:¬S g)(hth:∀b,S b->b<w.heap.size)(hn:n=k+1)(hi:i<n)(hB7:ar w7 g 48 cur)(hT7:cur.toList.take (k*2)=cs.take (i*2)++cs.drop ((i+1)*2))(hC7:cur.size=c*2)(hG7:w.grownBy w7 (some g))(hle:c<=maxLen/\B<=g)(hkc:k+1<=c)(u1 u2:Value):
 aD aX 48 (w7.setCells g (k*2) [u1,u2]) B S (.slice (some ⟨g,0,none⟩) k c) (xs.eraseIdx i)/\w.grownBy (w7.setCells g (k*2) [u1,u2]) (some g):=by
 obtain⟨cs2,k1,k2,k3⟩:=hB7.ix [u1,u2] (k*2) cur w7 (by simp;omega);have hG8:w.grownBy (w7.setCells g (k*2) [u1,u2]) (some g):=hG7.trans (dL g _ _ w7)
 have dY:cs2.toList.take (k*2)=cs.take (i*2)++cs.drop ((i+1)*2):=by
  rw[<-hT7];apply List.ext_getElem?;intro t;by_cases ht:t<k*2
  ·rw[List.getElem?_take_of_lt ht,List.getElem?_take_of_lt ht,Array.getElem?_toList,Array.getElem?_toList,k3,if_neg (by omega)]
  ·rw[List.getElem?_eq_none (by rw[List.length_take];omega),List.getElem?_eq_none (by rw[List.length_take];omega)]
 have hlen:(xs.eraseIdx i).length=k:=by rw[List.length_eraseIdx,if_pos (by omega)];omega
 have hcell:∀p:Addr,S p.block->(w7.setCells g (k*2) [u1,u2]).cell? p=w.cell? p:=fun p hp=>World.cell?_of_block (hG8.block _ (hth _ hp) (fun e=>by injection e with e;exact hap (e▸hp)));refine⟨⟨⟨cs2.toList.take (k*2),?_,fun j x hx=> ?_⟩,fun g' oC hs=> ?_,fun b hb=>l_ (hth b hb) hG8.size⟩,hG8⟩
 ·rw[hlen]
  exact⟨by rw[List.length_take,show aX.n=2 from rfl,Array.length_toList];omega,.inr ⟨g,c,cs2,rfl,hle.2,k1,by omega,hle.1,by rw[k2,hC7];rfl,rfl⟩⟩
 ·rw[List.getElem?_eraseIdx] at hx
  rw[dY,show aX.n=2 from rfl];split at hx
  ·next hj=>
   obtain⟨es,hR,Jt⟩:=he j x hx;have CN:=aX.len hR;rw[show aX.n=2 from rfl] at CN;refine⟨es,aX.keep hR (fun _ h=>h) hcell,fun t u hu=> ?_⟩;have ht:=(g_ hu).1;rw[List.getElem?_append_left (by rw[List.length_take];omega),List.getElem?_take_of_lt (by omega)];exact Jt t u hu
  ·next hj=>
   obtain⟨es,hR,Jt⟩:=he (j+1) x hx;have CN:=aX.len hR;rw[show aX.n=2 from rfl] at CN;refine⟨es,aX.keep hR (fun _ h=>h) hcell,fun t u hu=> ?_⟩;have h3:=Jt t u hu;rw[show aX.n=2 from rfl] at h3;rw[List.getElem?_append_right (by rw[List.length_take];omega),List.length_take,List.getElem?_drop,Nat.min_eq_left (by omega),show(i+1)*2+(j*2+t-i*2)=(j+1)*2+t by omega];exact h3
 ·simp[Value.ownBlock] at oC
  exact hap (oC▸hs)
theorem Ra(g n c i:Nat)(xs:List M.Seg)(B:Nat)(S:Nat->Prop)(w:World)(h:aD aX 48 w B S (.slice (some ⟨g,0,none⟩) n c) xs)(hi:i<n)(hn:n<=1048576):
 Calls Tryz.prog 174 #[.slice (some ⟨g,0,none⟩) n c,.int .i64 i,.int .i64 ((i:Int)+1)] w fun e w'=>e= .returned (.slice (some ⟨g,0,none⟩) (n-1) c)/\aD aX 48 w' B S (.slice (some ⟨g,0,none⟩) (n-1) c) (xs.eraseIdx i)/\w.grownBy w' (some g):=by
 have hl:=h.FU;obtain⟨cs,hr,he⟩:=h.row;rw[hl] at hr
 have dC:n<=c:=by
  rcases hr.2 with⟨e,_⟩|⟨g',cap',cur,e,_,_,h1,h2,_⟩
  ·cases e
  ·cases e;exact h1
 have hcm:c<=maxLen:=by
  rcases hr.2 with⟨e,_⟩|⟨g',cap',cur,e,_,_,h1,h2,_⟩
  ·cases e
  ·cases e;exact h2
 have lH:=hr.1;rw[show aX.n=2 from rfl] at lH;obtain⟨it,hit,hz,hs1,hb1⟩:=info_parts lY
 have hr1:w.ownsRow B 48 2 (.slice (some ⟨g,0,none⟩) i c) i (cs.take (i*2)):=by
  refine⟨by rw[List.length_take];omega,.inr ?_⟩;rcases hr.2 with⟨e,_⟩|⟨g',cap',cur,e,h0,h1,h2,h3,h4,h5⟩
  ·cases e
  ·cases e
   exact⟨g,c,cur,rfl,h0,h1,by omega,h3,h4,by rw[<-h5,List.take_take,show aX.n=2 from rfl,Nat.min_eq_left (by omega)]⟩
 have hnews:∀j u,(cs.drop ((i+1)*2))[j]? =some u->w.cell? ((⟨g,(i+1)*2,none⟩:Addr).add j)=some u:=by
  intro j u hu;rw[List.getElem?_drop] at hu;have h1:=(g_ hu).1;rw[Addr.add_mid];exact(hr.cellAt _ (by rw[show aX.n=2 from rfl];omega)).trans hu
 have je:∀u∈cs.drop ((i+1)*2),u.oneCell'=true:=by
  intro u hu;obtain⟨k,hk⟩:=List.mem_iff_getElem?.1 (List.mem_of_mem_drop hu);have hk2:=(g_ hk).1;obtain⟨es,hR,Jt⟩:=he (k/2) _ (e_ (by omega));have CN:=aX.len hR;rw[show aX.n=2 from rfl] at CN;obtain⟨v,hv⟩:∃v,es[k%2]? =some v:=⟨_,e_ (by omega)⟩
  have h3:=Jt _ v hv;rw[show aX.n=2 from rfl,show k/2*2+k%2=k by omega,hk] at h3;cases h3;exact aX.one hR u (m_ hv)
 obtain⟨A,hA,U0⟩:∃A:Addr,(if c=i+1 then(⟨g,0,none⟩:Addr) else⟨g,(i+1)*2,none⟩)=A/\∀j u,(cs.drop ((i+1)*2))[j]? =some u->w.cell? (A.add j)=some u:=by
  by_cases hc:c=i+1
  ·refine⟨_,rfl,fun j u hu=> ?_⟩
   have:(cs.drop ((i+1)*2)).length=0:=by rw[List.length_drop];omega
   rw[List.length_eq_zero_iff.1 this] at hu;simp at hu
  ·exact⟨_,rfl,by rw[if_neg hc];exact hnews⟩
 have HR:=q_ hr1;have HN:=q_ U0;have HO:=q_ je;have HX:=q_ h;have HE:=q_ (show xs.length=n/\cs.length=n*2/\∀j x,xs[j]? =some x->∃es,aX.R w S es x/\∀t u,es[t]? =some u->cs[j*aX.n+t]? =some u from⟨hl,lH,he⟩);have J1:=q_ hit;have J3:=q_ hs1;have HL:=q_ (show(cs.drop ((i+1)*2)).length=(n-(i+1))*2 by rw[List.length_drop];omega);have e1:((i:Int)+1)=((i+1:Nat):Int):=by omega
 have q1:((i:Int)==(i:Int)+1)=false:=by simp;omega
 clear h he hr hr1 U0 hnews je hit hz hs1 hb1 lH e1;by_cases hc:c=i+1
 ·rw[if_pos hc] at hA
  subst hA;obtain rfl:n=i+1:=by omega
  subst hc;have f1:(i:Int)<=(i:Int)+1:=by omega
  have f2:i<=i+1:=by omega
  go_enter Tryz.func174,Tryz.ntmps174;go_wp2_with fail;refine aO 6 [] aj (fun _=>none) (by kernel_rfl) (by kernel_rfl) aj.refl (by simp) (aj.draw _) aj.trans ?_ ?_
  ·intro j φ u x y hB hp jK
   cases hB
  iterate 6
   apply au rfl rfl
   ·intro vs wx hk K hK
    go_simp;exact hK _ (aj.refl _)
   intro KK af;go_simp;refine af _ ?_;clear af KK
  refine bg ?_;intro vs w6 jL Hw;intro KK af;have R6:=q_ (HR.o.kept (jL.grown none) (.inr (by simp[Value.ownBlock])));have N6:=q_ (show∀j u,(cs.drop ((i+1)*2))[j]? =some u->w6.cell? ((⟨g,0,none⟩:Addr).add j)=some u from fun j u hu=>(jL.cell (p:=(⟨g,0,none⟩:Addr).add j) (by rw[az];exact(HX.o.aJ (g:=g) rfl).2)).trans (HN.o j u hu));have H6:=q_ jL;clear jL Hw;simp only[List.drop_succ_cons];refine wpList_append_own_spare w6 rfl (.tmp 22) (.tmp 25) _ rfl B 48 it 2 Tryz.underlying25 J1.o J3.o g i (i+1) (cs.take (i*2)) (by rfl) R6.o ⟨g,0,none⟩ 0 0 (cs.drop ((i+1)*2)) (by rfl) (HL.o.trans (by omega)) N6.o HO.o (by omega) ?_;intro w7 SM FE;obtain⟨k,hk⟩:∃k,(i+1)=k+1:=⟨(i+1)-1,by omega⟩
  have ek:i+0=k:=by omega
  rw[ek] at SM⊢
  obtain⟨cur,Rb,Rc,Re⟩:∃cur,w7.heap[g]? =some (.cells cur 48 (0,0))/\cur.size=(i+1)*2/\cur.toList.take (k*2)=cs.take (i*2)++cs.drop ((i+1)*2):=by
   rcases SM.2 with⟨e,_⟩|⟨g',cap',cur,e,h0,h1,h2,h3,h4,h5⟩
   ·cases e
   ·cases e
    exact⟨cur,h1,h4,h5⟩
  have hblk:ar w7 g 48 cur:=Rb
  have lH:=fun ty=>oq (P:=Tryz.prog) w7 25 48 ty (.agg #[.string ⟨#[]⟩,.slice none 0 0]) Tryz.underlying25 (fun w=>Tryz.zeroValue48 w) (by simp[Value.cells,Value.oneCell']) g (k*2) 1 (fun j hj=>by
   rw[hblk.cell,Array.getElem?_eq_getElem (by simp[Value.cells] at hj;omega)];rfl) (fun j _=>hblk.frozen _)
  rw[show(Value.agg #[.string ⟨#[]⟩,.slice none 0 0]).cells.toList=[.string ⟨#[]⟩,.slice none 0 0] from rfl] at lH;have HB7:=q_ hblk;have HT7:=q_ Re;have HG7:=q_ (show w.grownBy w7 (some g) from(H6.o.grown _).trans FE);have HC7:=q_ Rc;have Yx:=q_ (show(i+1)<=maxLen/\B<=g from⟨hcm,(HX.o.aJ (g:=g) rfl).1⟩);have EK:=q_ hk;clear Rb Rc Re hblk SM FE hk;have hki:k=i:=by have:=EK.o;omega
  subst hki;go_wp2_with fail;go_ret;obtain⟨r1,r2⟩:=EC HE.o.1 HE.o.2.1 HE.o.2.2 (HX.o.apart g rfl) HX.o.there (by first|exact EK.o|rfl) hi HB7.o HT7.o HC7.o HG7.o Yx.o (by omega) (.string ⟨#[]⟩) (.slice none 0 0);exact⟨by first|rfl|(rw[EK.o];rfl)|simp,by first|exact r1|(rw[show n-1=k by have:=EK.o;omega];exact r1),r2⟩
 ·rw[if_neg hc] at hA
  subst hA;have f2:i<=c:=by omega
  have f3:i+1<=n:=by omega
  have f4:i+1<=c:=by omega
  have f6:(0:Int)<=(i:Int)+1/\(i:Int)+1<=(n:Int):=by omega
  go_enter Tryz.func174,Tryz.ntmps174;go_wp2_with fail;refine aO 6 [] aj (fun _=>none) (by kernel_rfl) (by kernel_rfl) aj.refl (by simp) (aj.draw _) aj.trans ?_ ?_
  ·intro j φ u x y hB hp jK
   cases hB
  iterate 6
   apply au rfl rfl
   ·intro vs wx hk K hK
    go_simp;exact hK _ (aj.refl _)
   intro KK af;go_simp;refine af _ ?_;clear af KK
  refine bg ?_;intro vs w6 jL Hw;intro KK af;have R6:=q_ (HR.o.kept (jL.grown none) (.inr (by simp[Value.ownBlock])));have N6:=q_ (show∀j u,(cs.drop ((i+1)*2))[j]? =some u->w6.cell? ((⟨g,(i+1)*2,none⟩:Addr).add j)=some u from fun j u hu=>(jL.cell (p:=(⟨g,(i+1)*2,none⟩:Addr).add j) (by rw[az];exact(HX.o.aJ (g:=g) rfl).2)).trans (HN.o j u hu));have H6:=q_ jL;clear jL Hw;simp only[List.drop_succ_cons];refine wpList_append_own_spare w6 rfl (.tmp 22) (.tmp 25) _ rfl B 48 it 2 Tryz.underlying25 J1.o J3.o g i c (cs.take (i*2)) (by rfl) R6.o ⟨g,(i+1)*2,none⟩ (n-(i+1)) (c-(i+1)) (cs.drop ((i+1)*2)) (by rfl) HL.o N6.o HO.o (by omega) ?_;intro w7 SM FE;obtain⟨k,hk⟩:∃k,n=k+1:=⟨n-1,by omega⟩
  have ek:i+(n-(i+1))=k:=by omega
  rw[ek] at SM⊢
  obtain⟨cur,Rb,Rc,Re⟩:∃cur,w7.heap[g]? =some (.cells cur 48 (0,0))/\cur.size=c*2/\cur.toList.take (k*2)=cs.take (i*2)++cs.drop ((i+1)*2):=by
   rcases SM.2 with⟨e,_⟩|⟨g',cap',cur,e,h0,h1,h2,h3,h4,h5⟩
   ·cases e
   ·cases e
    exact⟨cur,h1,h4,h5⟩
  have hblk:ar w7 g 48 cur:=Rb
  have lH:=fun ty=>oq (P:=Tryz.prog) w7 25 48 ty (.agg #[.string ⟨#[]⟩,.slice none 0 0]) Tryz.underlying25 (fun w=>Tryz.zeroValue48 w) (by simp[Value.cells,Value.oneCell']) g (k*2) (c-k) (fun j hj=>by
   rw[hblk.cell,Array.getElem?_eq_getElem (by simp[Value.cells] at hj;omega)];rfl) (fun j _=>hblk.frozen _)
  rw[show(Value.agg #[.string ⟨#[]⟩,.slice none 0 0]).cells.toList=[.string ⟨#[]⟩,.slice none 0 0] from rfl] at lH;have HB7:=q_ hblk;have HT7:=q_ Re;have HG7:=q_ (show w.grownBy w7 (some g) from(H6.o.grown _).trans FE);have HC7:=q_ Rc;have Yx:=q_ (show c<=maxLen/\B<=g from⟨hcm,(HX.o.aJ (g:=g) rfl).1⟩);have EK:=q_ hk;clear Rb Rc Re hblk SM FE hk;have uH:n=k+1:=EK.o;have f5:k<=n:=by omega
  go_wp2_with fail;go_ret;obtain⟨r1,r2⟩:=EC HE.o.1 HE.o.2.1 HE.o.2.2 (HX.o.apart g rfl) HX.o.there (by first|exact EK.o|rfl) hi HB7.o HT7.o HC7.o HG7.o Yx.o (by omega) (.string ⟨#[]⟩) (.slice none 0 0);exact⟨by first|rfl|(rw[EK.o];rfl)|simp,by first|exact r1|(rw[show n-1=k by have:=EK.o;omega];exact r1),r2⟩
end
end Go.Proofs.YtpohlhkgbmdieaaGreatDoor
