/- Part 16 of the proof. -/
import Derived.Test.YtpohlhkgbmdieaaGreatDoorW15
set_option linter.unusedVariables false
set_option maxRecDepth 1000000
set_option maxHeartbeats 16000000
namespace Go.Proofs.YtpohlhkgbmdieaaGreatDoor
variable{B:Nat}{α:Type}{E:aU α}{Q:Exit->Act->World->Prop}{S:Nat->Prop}{T:TypeId}{W:World}{a:Act}{cs:Array Value}{fn:Func}{g:Nat}{op:Oper}{ops:Array Oper}{p:Tmp}{rest:List Oper}{t:TypeId}{tmps:Array Value}{ty:TypeId}{v:Value}{w w':World}{xs:List α}
section
open Go Go.RowKit Go.BigFrame
theorem nY(h:v.oneCell'=true):v.cells=#[v]:=by
 cases v<;>first|rfl|(simp[Value.oneCell'] at h)
theorem bY{P:Program}(hgd:op.guard=none)(ty:TypeId)(x y:Operand)(ho:op.op= .store ty x y)(b i:Nat)(v:Value)(hx:a.eval x= .pointer (some ⟨b,i,none⟩))(hy:a.eval y=v)(hk:ar w b t cs)(hi:i<cs.size)(hsz:(P.info? ty).map (·.size)=some 1)(h1:v.oneCell'=true)(h:∀w',ar w' b t (cs.setIfInBounds i v)->w.grownBy w' (some b)->wpList P ops Q rest (a.put op.dst undef) w'):wpList P ops Q (op::rest) a w:=by
 refine wpList_plain hgd fun K' hK'=> ?_
 have hs:(storeVar ty ⟨b,i,none⟩ v).run P w= .ok () (w.setCells b i [v]):=by
  have:=run_storeCells_cells (P:=P) b i [v] 0 w (fun j hj=>by
   simp at hj;subst hj;rw[show i+0+0=i by omega,hk.cell];simp[hi]) (fun j hj=>by
   simp at hj;subst hj;exact hk.frozen _) (fun u hu=>by simp at hu;subst hu;exact h1)
  cases hq:P.info? ty with
  |none=>simp[hq] at hsz
  |some i'=>
   have hs:i'.size=1:=by simpa[hq] using hsz
   simp only[Nat.add_zero] at this;simp[storeVar,sizeOf,typeInfo,hq,nY h1,hs,this]
 unfold Oper.wp execOp;simp only[ho,hx,hy,Instr.storeAt,Instr.sureAddr,Sem.run_bind,Sem.run_pure,Result.andThen_ok,hs];exact hK' _ _ (h _ (hk.fK i v) (aV w b i v))
theorem ar.XC(h:ar w g t cs)(o n:Nat)(hn:o+n<=cs.size):w.there g o n:=fun j hj=>by
 exact⟨by rw[h.cell,Array.getElem?_eq_getElem (by omega)];rfl,h.frozen _⟩
theorem pN{P:Program}{cs' cs2:Array Value}(hgd:op.guard=none)(ty:TypeId)(x y:Operand)(ho:op.op= .store ty x y)(b o:Nat)(hx:a.eval x= .pointer (some ⟨b,o,none⟩))(hy:a.eval y= .agg cs')(hk:ar w b t cs)(hs:o+cs'.size<=cs.size)(h2:cs2.toList=cs.toList.take o++cs'.toList++cs.toList.drop (o+cs'.size))(hi:(P.info? ty).map (·.size)=some cs'.size)(h1:cs'.all (·.oneCell')=true)(h:∀w',ar w' b t cs2->w.grownBy w' (some b)->wpList P ops Q rest (a.put op.dst undef) w'):wpList P ops Q (op::rest) a w:=by
 obtain⟨XD,k1,k2,k3⟩:=ar.ix cs'.toList o cs w hk (by simpa using hs)
 have e:XD=cs2:=by
  apply Array.ext_getElem?;intro i;rw[k3,<-Array.getElem?_toList (xs:=cs2),h2];have hlo:(cs.toList.take o).length=o:=by rw[List.length_take];simp;omega
  by_cases hio:i<o
  ·rw[if_neg (by omega),List.append_assoc,List.getElem?_append_left (by omega),List.getElem?_take_of_lt hio]
   simp
  ·by_cases Jt:i<o+cs'.size
   ·rw[if_pos (by simp;omega),List.append_assoc,List.getElem?_append_right (by omega),hlo,List.getElem?_append_left (by simp;omega)]
   ·rw[if_neg (by simp;omega),List.getElem?_append_right (by rw[List.length_append,hlo];simp;omega),List.getElem?_drop]
    rw[List.length_append,hlo,show o+cs'.size+(i-(o+cs'.toList.length))=i by simp;omega];simp
 subst e;exact wpList_store_mid hgd ty x y ho b o cs' hx hy (hk.XC o cs'.size hs) hi h1 (h _ k1 (dL b _ o w))
theorem pO{u v:Tmp}(h:fn.results=#[.cell p ty,.tmp u,.tmp v])(tmps:Array Value)(P:Program)(w:World):
 (results fn tmps).run P w=
   ((asAddr (tmps.getD p undef)).run P w).andThen fun a w₁=>((loadVar ty a).run P w₁).andThen fun x w₂=> .ok (.tuple #[x,tmps.getD u undef,tmps.getD v undef]) w₂:=by
 simp only[results,h];simp[Sem.run_bind,Result.andThen]
theorem Dw{v3 v4:Value}(hW:ar W g 129 cs)(hl:cs.size=10)(h2:tmps.getD 2 undef= .pointer (some ⟨g,0,none⟩))(h3:tmps.getD 3 undef=v3)(h4:tmps.getD 4 undef=v4):
 (results Tryz.f254 tmps).run Tryz.prog W= .ok (.tuple #[.agg cs,v3,v4]) W:=by
 rw[pO rfl,h2,h3,h4];have hi:(Tryz.prog.info? 129).map (·.size)=some cs.size:=by rw[hl];kernel_rfl
 have h:=run_loadVar_row (P:=Tryz.prog) W g 129 129 cs (0,0) _ hW Tryz.underlying129 rfl hi;simp only[asAddr,Sem.run_pure,Result.andThen_ok,h]
def Ju(x:M.Node):Value:= .tuple #[.agg #[.int .i64 (M.ir x).op,.int .i64 (M.ir x).n,.string (M.ir x).text,.int .i64 (M.ir x).num,.string (M.ir x).path.aN,.int .i64 (M.ir x).path.aP,.int .i64 (M.ir x).path.aR,.int .i64 (M.ir x).path.rep,.int .i64 (M.ir x).path.comp,.int .i64 (M.ir x).path.sub],.int .i64 (M.cd x.op),.int .i64 (M.nR x.op)]
theorem G'(op n:Int)(text:ByteArray)(num:Int)(aN:ByteArray)(aP aR rep comp sub:Int)(h:op<0\/23<op\/op=6\/op=9\/op=10):
 Ju ⟨op,n,text,num,⟨aN,aP,aR,rep,comp,sub⟩⟩= .tuple #[.agg #[.int .i64 op,.int .i64 n,.string ⟨#[]⟩,.int .i64 0,.string ⟨#[]⟩,.int .i64 0,.int .i64 0,.int .i64 0,.int .i64 0,.int .i64 0],.int .i64 0,.int .i64 0]:=by
 have k1:M.jN op=false:=by simp[M.jN];omega
 have k2:M.lR op=false:=by simp[M.lR];omega
 have k3:M.jO op=false:=by simp[M.jO];omega
 have k4:M.cd op=0:=by unfold M.cd M.lQ;rw[if_neg (by omega),if_neg (by omega),if_neg (by simp;omega)]
 have k5:M.nR op=0:=by unfold M.nR M.lQ;rw[if_neg (by omega),if_neg (by omega),if_neg (by omega),if_neg (by simp;omega)]
 simp[Ju,M.ir,k1,k2,k3,k4,k5,M.lN];rfl
theorem OZ(x:M.Node)(w:World):Calls Tryz.prog 254 #[.agg #[.int .i64 x.op,.int .i64 x.n,.string x.text,.int .i64 x.num,.string x.path.aN,.int .i64 x.path.aP,.int .i64 x.path.aR,.int .i64 x.path.rep,.int .i64 x.path.comp,.int .i64 x.path.sub]] w fun e w'=>e= .returned (Ju x)/\Below w.heap.size w w':=by
 obtain⟨op,n,text,num,⟨aN,aP,aR,rep,comp,sub⟩⟩:=x;have E0:=q_ (((ar.new w 129 #[.int .i64 op,.int .i64 n,.string text,.int .i64 num,.string aN,.int .i64 aP,.int .i64 aR,.int .i64 rep,.int .i64 comp,.int .i64 sub]).alloc (.cells #[.int .i64 0,.int .i64 0,.string ⟨#[]⟩,.int .i64 0,.string ⟨#[]⟩,.int .i64 0,.int .i64 0,.int .i64 0,.int .i64 0,.int .i64 0] 129)).alloc (.cells #[.int .i64 0,.int .i64 0,.string ⟨#[]⟩,.int .i64 0,.string ⟨#[]⟩,.int .i64 0,.int .i64 0,.int .i64 0,.int .i64 0,.int .i64 0] 129));have E1:=q_ ((ar.new (w.alloc (.cells #[.int .i64 op,.int .i64 n,.string text,.int .i64 num,.string aN,.int .i64 aP,.int .i64 aR,.int .i64 rep,.int .i64 comp,.int .i64 sub] 129)) 129 #[.int .i64 0,.int .i64 0,.string ⟨#[]⟩,.int .i64 0,.string ⟨#[]⟩,.int .i64 0,.int .i64 0,.int .i64 0,.int .i64 0,.int .i64 0]).alloc (.cells #[.int .i64 0,.int .i64 0,.string ⟨#[]⟩,.int .i64 0,.string ⟨#[]⟩,.int .i64 0,.int .i64 0,.int .i64 0,.int .i64 0,.int .i64 0] 129))
 have E2:=q_ (ar.new ((w.alloc (.cells #[.int .i64 op,.int .i64 n,.string text,.int .i64 num,.string aN,.int .i64 aP,.int .i64 aR,.int .i64 rep,.int .i64 comp,.int .i64 sub] 129)).alloc (.cells #[.int .i64 0,.int .i64 0,.string ⟨#[]⟩,.int .i64 0,.string ⟨#[]⟩,.int .i64 0,.int .i64 0,.int .i64 0,.int .i64 0,.int .i64 0] 129)) 129 #[.int .i64 0,.int .i64 0,.string ⟨#[]⟩,.int .i64 0,.string ⟨#[]⟩,.int .i64 0,.int .i64 0,.int .i64 0,.int .i64 0,.int .i64 0]);have B2:=q_ ((((Below.refl w.heap.size w).alloc (n_) (.cells #[.int .i64 op,.int .i64 n,.string text,.int .i64 num,.string aN,.int .i64 aP,.int .i64 aR,.int .i64 rep,.int .i64 comp,.int .i64 sub] 129)).alloc (by simp) (.cells #[.int .i64 0,.int .i64 0,.string ⟨#[]⟩,.int .i64 0,.string ⟨#[]⟩,.int .i64 0,.int .i64 0,.int .i64 0,.int .i64 0,.int .i64 0] 129)).alloc (by simp;omega) (.cells #[.int .i64 0,.int .i64 0,.string ⟨#[]⟩,.int .i64 0,.string ⟨#[]⟩,.int .i64 0,.int .i64 0,.int .i64 0,.int .i64 0,.int .i64 0] 129));simp only[World.size_alloc] at E1 E2
 rcases(show op=0\/op=1\/op=2\/op=3\/op=4\/op=5\/op=6\/op=7\/op=8\/op=9\/op=10\/op=11\/op=12\/op=13\/op=14\/op=15\/op=16\/op=17\/op=18\/op=19\/op=20\/op=21\/op=22\/op=23\/op<0\/23<op by omega) with rfl|rfl|rfl|rfl|rfl|rfl|rfl|rfl|rfl|rfl|rfl|rfl|rfl|rfl|rfl|rfl|rfl|rfl|rfl|rfl|rfl|rfl|rfl|rfl|hno
 rotate_left 24
 ·have q0:∀k:Int,0<=k->k<=23->(op==k)=false:=fun k h1 h2=>by simp;omega
  have HO:=q_ (G' op n text num aN aP aR rep comp sub (by omega));have t0:=q0 0 (by decide) (by decide);have t1:=q0 1 (by decide) (by decide);have t2:=q0 2 (by decide) (by decide);have t3:=q0 3 (by decide) (by decide);have t4:=q0 4 (by decide) (by decide);have t5:=q0 5 (by decide) (by decide);have t7:=q0 7 (by decide) (by decide);have t8:=q0 8 (by decide) (by decide);have u1:=q0 11 (by decide) (by decide);have u2:=q0 12 (by decide) (by decide);have u3:=q0 13 (by decide) (by decide);have u4:=q0 14 (by decide) (by decide);have u5:=q0 15 (by decide) (by decide);have u6:=q0 16 (by decide) (by decide);have u7:=q0 17 (by decide) (by decide);have u8:=q0 18 (by decide) (by decide);have u9:=q0 19 (by decide) (by decide);have v0:=q0 20 (by decide) (by decide);have v1:=q0 21 (by decide) (by decide);have v2:=q0 22 (by decide) (by decide);have v3:=q0 23 (by decide) (by decide);clear q0 hno;rw[HO.o];go_enter Tryz.func254,Tryz.ntmps254
  go_wp2_with (first
   |(refine ah rfl _ _ _ (by rfl) (w.heap.size+1+1) (by rfl) (by rfl) E2.o (by rfl) (by kernel_rfl) (by simp[Value.oneCell']) ?_;intro w3 k3 g3;have K:=q_ k3;have F:=q_ (E1.o.aK g3 (by omega));have B:=q_ (ai B2.o g3 (by omega));have z0:=(E0.o.aK g3 (by omega)).cell;have z2:=k3.cell;clear k3 g3 E2)
   |(refine ah rfl _ _ _ (by rfl) (w.heap.size+1) (by rfl) (by rfl) F.o (by rfl) (by kernel_rfl) (by simp[Value.oneCell']) ?_;intro w5 k5 g5;have K5:=q_ k5;have B5:=q_ (ai B.o g5 (by omega));clear k5 g5))
  (try simp only[Exit.inBlock,Exit.then]);exact bodyPost_ret (Dw K5.o rfl rfl rfl rfl) rfl ⟨rfl,B5.o⟩
 all_goals
  go_enter Tryz.func254,Tryz.ntmps254
  go_wp2_with (first
   |(refine ah rfl _ _ _ (by rfl) (w.heap.size+1+1) (by rfl) (by rfl) E2.o (by rfl) (by kernel_rfl) (by simp[Value.oneCell']) ?_;intro w3 k3 g3;have K:=q_ k3;have F:=q_ (E1.o.aK g3 (by omega));have B:=q_ (ai B2.o g3 (by omega));have z0:=(E0.o.aK g3 (by omega)).cell;have z2:=k3.cell;clear k3 g3 E2)
   |(refine pN (cs':=#[.string aN,.int .i64 aP,.int .i64 aR,.int .i64 rep,.int .i64 comp,.int .i64 sub]) (cs2:=#[.int .i64 _,.int .i64 n,.string ⟨#[]⟩,.int .i64 0,.string aN,.int .i64 aP,.int .i64 aR,.int .i64 rep,.int .i64 comp,.int .i64 sub]) rfl _ _ _ (by rfl) (w.heap.size+1+1) 4 (by rfl) (by rfl) K.o (by simp) (by rfl) (by kernel_rfl) (by simp[Value.oneCell']) ?_;intro w4 k4 g4;have K:=q_ k4;have F:=q_ (F.o.aK g4 (by omega));have B:=q_ (ai B.o g4 (by omega));have y2:=k4.cell;clear k4 g4)
   |(refine bY rfl _ _ _ (by rfl) (w.heap.size+1+1) 2 (.string text) (by rfl) (by rfl) K.o (by simp) (by kernel_rfl) rfl ?_;intro w4 k4 g4;have K:=q_ (show ar w4 (w.heap.size+1+1) 129 #[.int .i64 _,.int .i64 n,.string text,.int .i64 0,.string ⟨#[]⟩,.int .i64 0,.int .i64 0,.int .i64 0,.int .i64 0,.int .i64 0] from k4);have F:=q_ (F.o.aK g4 (by omega));have B:=q_ (ai B.o g4 (by omega));have y2:=K.o.cell;clear k4 g4)
   |(refine bY rfl _ _ _ (by rfl) (w.heap.size+1+1) 3 (.int .i64 num) (by rfl) (by rfl) K.o (by simp) (by kernel_rfl) rfl ?_;intro w4 k4 g4;have K:=q_ (show ar w4 (w.heap.size+1+1) 129 #[.int .i64 _,.int .i64 n,.string ⟨#[]⟩,.int .i64 num,.string ⟨#[]⟩,.int .i64 0,.int .i64 0,.int .i64 0,.int .i64 0,.int .i64 0] from k4);have F:=q_ (F.o.aK g4 (by omega));have B:=q_ (ai B.o g4 (by omega));have y2:=K.o.cell;clear k4 g4)
   |(refine ah rfl _ _ _ (by rfl) (w.heap.size+1) (by rfl) (by rfl) F.o (by rfl) (by kernel_rfl) (by simp[Value.oneCell']) ?_;intro w5 k5 g5;have K5:=q_ k5;have B5:=q_ (ai B.o g5 (by omega));clear k5 g5))
  (try simp only[Exit.inBlock,Exit.then]);exact bodyPost_ret (Dw K5.o rfl rfl rfl rfl) rfl ⟨rfl,B5.o⟩
theorem aD.TQ{xs:List ByteArray}(h:aD bN T w B S v xs):aD bN T w B (fun _=>False) v xs:=by
 obtain⟨cs,ho,he⟩:=h.row;exact⟨⟨cs,ho,fun j x hx=>he j x hx⟩,fun _ _ h=>h,fun _ h=>h.elim⟩
theorem aD.made{w0:World}(h:aD E T w w0.heap.size S v xs)(hS:∀b,S b->w0.heap.size<=b)(hm:xs.length<=1048576):E.list.R w (New w0 w) [v] xs:=
 h.reads (fun b hb=>⟨hS b hb,h.there b hb⟩) (fun g hg=>h.aJ hg) hm
theorem aD.grow(h:aD E T w B S v xs)(hb:Below w.heap.size w w'):aD E T w' B (fun b=>S b\/New w w' b) v xs:=
 (h.below hb).widen (fun b h=>h.2) (fun g hg hn=>by have:=(h.aJ hg).2;have:=hn.1;omega)
theorem AJ(hS:∀b,S b->B<=b)(hB:B<=w.heap.size):∀b,(S b\/New w w' b)->B<=b:=fun b h=>h.elim (hS b) (fun h=>t_ hB h.1)
theorem kx{k:Nat}{x:α}(h:xs[k]? =some x):xs.take (k+1)=xs.take k++[x]:=by rw[List.take_add_one,h];rfl
theorem jE(h:fn.results=#[.cell p ty])(tmps:Array Value)(P:Program)(w:World):
 (results fn tmps).run P w=((asAddr (tmps.getD p undef)).run P w).andThen fun a w₁=>(loadVar ty a).run P w₁:=by
 simp only[results,h];simp[Sem.run_bind,Result.andThen]
theorem Pa(hf:fn.results=#[.cell p 27])(hW:ar W g 27 cs)(hl:cs.size=6)(h2:tmps.getD p undef= .pointer (some ⟨g,0,none⟩)):
 (results fn tmps).run Tryz.prog W= .ok (.agg cs) W:=by
 rw[jE hf,h2];have hi:(Tryz.prog.info? 27).map (·.size)=some cs.size:=by rw[hl];kernel_rfl
 have h:=run_loadVar_row (P:=Tryz.prog) W g 27 27 cs (0,0) _ hW Tryz.underlying27 rfl hi;simp only[asAddr,Sem.run_pure,Result.andThen_ok,h]
theorem Pb(d:M.bR)(A:Option Addr)(c:Nat)(l:List M.Seg)(S:Nat->Prop)(w:World)(aI:bX A l.length c)(hl:bn aX w S A l.length l)(hS:∀b,S b->b<w.heap.size):
 Calls Tryz.prog 21 #[.agg #[.int .u8 (d.f.toNat:Int),.int .u8 (d.c.toNat:Int),.int .u8 (d.r.toNat:Int),.int .u8 (d.e.toNat:Int),.int .u8 (d.s.toNat:Int),.slice A l.length c]] w (CS w ⟨d,l⟩):=by
 have hm:=aI.le;obtain⟨itG,jat,hzG,Pc,hbG⟩:=info_parts lY;obtain⟨itF,jau,hzF,hsF,hbF⟩:=info_parts lX;obtain⟨itR,jav,hzR,hsR,hbR⟩:=info_parts lW;obtain⟨itC,jaw,hzC,xm,Fz⟩:=info_parts lV;have G1:=q_ jat;have G2:=q_ hzG;have G3:=q_ Pc;have G4:=q_ hbG;have F1:=q_ jau;have F2:=q_ hzF;have F3:=q_ hsF;have F4:=q_ hbF;have R1:=q_ jav;have R2:=q_ hzR;have R3:=q_ hsR;have R4:=q_ hbR;have C1:=q_ jaw;have C2:=q_ hzC;have C3:=q_ xm;have C4:=q_ Fz;obtain⟨w1,bu⟩:∃w1,w1=w.alloc (.cells #[.int .u8 (d.f.toNat:Int),.int .u8 (d.c.toNat:Int),.int .u8 (d.r.toNat:Int),.int .u8 (d.e.toNat:Int),.int .u8 (d.s.toNat:Int),.slice A l.length c] 27):=⟨_,rfl⟩
 obtain⟨w2,hw2⟩:∃w2,w2=w1.alloc (.cells #[.int .u8 0,.int .u8 0,.int .u8 0,.int .u8 0,.int .u8 0,.slice none 0 0] 27):=⟨_,rfl⟩
 have s1:w1.heap.size=w.heap.size+1:=by rw[bu];simp
 have s2:w2.heap.size=w.heap.size+2:=by rw[hw2];simp[s1]
 have X1:=q_ (show ar w2 w.heap.size 27 #[.int .u8 (d.f.toNat:Int),.int .u8 (d.c.toNat:Int),.int .u8 (d.r.toNat:Int),.int .u8 (d.e.toNat:Int),.int .u8 (d.s.toNat:Int),.slice A l.length c] by rw[hw2,bu];exact(ar.new w _ _).alloc _);have X2:=q_ (show ar w2 (w.heap.size+1) 27 #[.int .u8 0,.int .u8 0,.int .u8 0,.int .u8 0,.int .u8 0,.slice none 0 0] by rw[hw2];exact s1▸ar.new w1 _ _);have B2:=q_ (show Below w.heap.size w w2 by rw[hw2,bu];exact((Below.refl _ w).alloc (n_) _).alloc (by simp) _);have H:=q_ hl;have HS:=q_ hS;generalize Al:l.length=m at*;have HM:=q_ Al;clear hl hS aI Al jat hzG Pc hbG jau hzF hsF hbF jav hzR hsR hbR jaw hzC xm Fz;obtain⟨w3,hw3⟩:∃w3,w3=w2.alloc (.cells #[.int .u8 (d.f.toNat:Int),.int .u8 (d.c.toNat:Int),.int .u8 (d.r.toNat:Int),.int .u8 (d.e.toNat:Int),.int .u8 (d.s.toNat:Int),.slice none 0 0] 27):=⟨_,rfl⟩
 have s3:w3.heap.size=w.heap.size+3:=by rw[hw3];simp[s2]
 have Y2:=q_ (show ar w3 (w.heap.size+1) 27 #[.int .u8 0,.int .u8 0,.int .u8 0,.int .u8 0,.int .u8 0,.slice none 0 0] from hw3▸X2.o.alloc _);have Y3:=q_ (show ar w3 (w.heap.size+2) 27 #[.int .u8 (d.f.toNat:Int),.int .u8 (d.c.toNat:Int),.int .u8 (d.r.toNat:Int),.int .u8 (d.e.toNat:Int),.int .u8 (d.s.toNat:Int),.slice none 0 0] from hw3▸s2▸ar.new w2 _ _);have BY:=q_ (show Below w.heap.size w w3 from hw3▸B2.o.alloc B2.o.size _);have z1:=X1.o.cell;go_enter Tryz.func21,Tryz.ntmps21;go_wp2_with fail;rw[<-bu,<-hw2,<-hw3];clear bu hw2 hw3 z1 X1 X2 B2;go_loopw [21] (fun x wx=>∃(k:Nat) (S':Nat->Prop) (v:Value),k<=m/\x= .int .i64 k/\aD aX 48 wx (w.heap.size+3) S' v (l.take k)/\(∀b,S' b->w.heap.size+3<=b)/\ar wx (w.heap.size+1) 27 #[.int .u8 0,.int .u8 0,.int .u8 0,.int .u8 0,.int .u8 0,.slice none 0 0]/\ar wx (w.heap.size+2) 27 #[.int .u8 (d.f.toNat:Int),.int .u8 (d.c.toNat:Int),.int .u8 (d.r.toNat:Int),.int .u8 (d.e.toNat:Int),.int .u8 (d.s.toNat:Int),v]/\Below w.heap.size w wx/\w.heap.size+3<=wx.heap.size) (fun x _=>m-(intOf x).toNat)
 case atStart=>exact⟨0,fun _=>False,_,by omega,rfl,aD.nil (fun b hb=>hb.elim),(fun b hb=>hb.elim),Y2.o,Y3.o,BY.o,by omega⟩
 case round=>
  obtain⟨k,S',v,hk,rfl,hown,dS,k2,k3,bS,hz3⟩:=hrel;obtain⟨wP,rfl⟩:∃x:World,x=wr:=⟨_,rfl⟩
  have OW:=q_ hown;have SG:=q_ dS;have K2:=q_ k2;have K3:=q_ k3;have BW:=q_ bS;clear hown dS k2 k3 bS;by_cases hlt:k<m
  ·have q1:decide ((k:Int)<(m:Int))=true:=by simp;omega
   obtain⟨ad,sg,cs,rfl,hb,hx,hr,hc⟩:=(H.o.dB BW.o HS.o).NY hlt;obtain⟨Af,cf,rfl,uH,xu,Jj⟩:=aX.inv hr;have e0:=hc 0 _ rfl;have e1:=hc 1 _ rfl;rw[show aX.n=2 from rfl] at e0 e1;rw[Nat.add_zero] at e0;rw[iO 1 (by omega)] at e1;have HT:=q_ (kx hx);have qV:=q_ (show(l.take k).length<=m from by rw[List.length_take];have:=HM.o;omega);have FL:=q_ Jj;have Tu:=xu.le;clear hx hr hc Jj;obtain⟨wa,ZF⟩:∃wa,wa=wP.alloc (.cells #[.string sg.name,.slice Af sg.fields.length cf] 48):=⟨_,rfl⟩
   obtain⟨wb,XE⟩:∃wb,wb=wa.alloc (.cells #[.string sg.name,.slice none 0 0] 48):=⟨_,rfl⟩
   have sa:wa.heap.size=wP.heap.size+1:=by rw[ZF];simp
   have sb:wb.heap.size=wP.heap.size+2:=by rw[XE];simp[sa]
   have XA:=q_ (show ar wb wP.heap.size 48 #[.string sg.name,.slice Af sg.fields.length cf] by rw[XE,ZF];exact(ar.new wP _ _).alloc _);have XB:=q_ (show ar wb (wP.heap.size+1) 48 #[.string sg.name,.slice none 0 0] by rw[XE,<-sa];exact ar.new wa _ _);have BB:=q_ (show Below wP.heap.size wP wb by rw[XE,ZF];exact((Below.refl _ wP).alloc (n_) _).alloc (by simp) _);generalize kf:sg.fields.length=nf at*;have SC:=q_ kf;clear kf;have za:=XA.o.cell;go_wp2_with fail;rw[<-ZF,<-XE];clear ZF XE e0 e1 za;go_loopw [31] (fun x wx=>∃(k1:Nat) (S1:Nat->Prop) (v1:Value),k1<=nf/\x= .int .i64 k1/\aD cG 49 wx (wP.heap.size+2) S1 v1 (sg.fields.take k1)/\(∀b,S1 b->wP.heap.size+2<=b)/\ar wx (wP.heap.size+1) 48 #[.string sg.name,v1]/\Below (wP.heap.size+1) wb wx/\wP.heap.size+2<=wx.heap.size) (fun x _=>nf-(intOf x).toNat)
   case atStart=>exact⟨0,fun _=>False,_,by omega,rfl,aD.nil (fun b hb=>hb.elim),(fun b hb=>hb.elim),XB.o,Below.refl _ _,by omega⟩
   case round=>
    obtain⟨k1,S1,v1,kY,rfl,hown1,jax,kb1,Pf,hz1⟩:=hrel;obtain⟨wQ,rfl⟩:∃x:World,x=wr:=⟨_,rfl⟩
    have OW1:=q_ hown1;have SG1:=q_ jax;have KB1:=q_ kb1;have BL1:=q_ Pf;have VX:=q_ (show Below wP.heap.size wP wQ from BB.o.trans (Pf.mono (by omega)));have BX1:=q_ (show Below w.heap.size w wQ from BW.o.trans (VX.o.mono BW.o.size));clear hown1 jax kb1 Pf;by_cases di:k1<nf
    ·have q2:decide ((k1:Int)<(nf:Int))=true:=by simp;omega
     obtain⟨Oh,fd,u1,rfl,hb1,hx1,hr1,hc1⟩:=((FL.o.dB (VX.o) (fun b h=>l_ (HS.o b h) BW.o.size))).in1 rfl di;obtain⟨Ar,cr,rfl,jbU,hlr⟩:=aU.av (E:=jQ) hr1;have HT1:=q_ (kx hx1);have jbV:=q_ (show(sg.fields.take k1).length<=nf from by rw[List.length_take];have:=SC.o;omega);have RL:=q_ hlr;have XF:=jbU.le;generalize vn:fd.length=nr at*;have HFR:=q_ vn;clear hx1 hr1 hlr vn;go_wp2_with fail;go_loopw [9,37] (fun v2 x wx=>∃(k2:Nat) (S2:Nat->Prop),k2<=nr/\x= .int .i64 k2/\aD jQ 50 wx wQ.heap.size S2 v2 (fd.take k2)/\(∀b,S2 b->wQ.heap.size<=b)/\Below wQ.heap.size wQ wx) (fun _ x _=>nr-(intOf x).toNat)
     case atStart=>exact⟨0,fun _=>False,by omega,rfl,aD.nil (fun b hb=>hb.elim),(fun b hb=>hb.elim),Below.refl _ _⟩
     case round=>
      obtain⟨k2,S2,hk2,rfl,hown2,jay,eZ⟩:=hrel;obtain⟨wR,rfl⟩:∃x:World,x=wr:=⟨_,rfl⟩
      have OW2:=q_ hown2;have Sx:=q_ jay;have Fy:=q_ eZ;have BX2:=q_ (show Below w.heap.size w wR from BX1.o.trans (eZ.mono BX1.o.size));clear hown2 jay eZ;by_cases jS:k2<nr
      ·have q3:decide ((k2:Int)<(nr:Int))=true:=by simp;omega
       obtain⟨ad2,rp,u2,rfl,hb2,hx2,hr2,hc2⟩:=((RL.o.dB (Fy.o) (fun b h=>l_ (HS.o b h) BX1.o.size))).in1 rfl jS;obtain⟨Ac,cc,rfl,jbW,hlc⟩:=aU.av (E:=cJ) hr2;have HT2:=q_ (kx hx2);have jbX:=q_ (show(fd.take k2).length<=nr from by rw[List.length_take];have:=HFR.o;omega);have CL:=q_ hlc;have hmc:=jbW.le;generalize hfc:rp.length=nc at*;have HFC:=q_ hfc;clear hx2 hr2 hlc hfc;go_wp2_with fail;go_loopw [12,43] (fun v3 x wx=>∃(k3:Nat) (S3:Nat->Prop),k3<=nc/\x= .int .i64 k3/\aD cJ 31 wx wR.heap.size S3 v3 (rp.take k3)/\(∀b,S3 b->wR.heap.size<=b)/\Below wR.heap.size wR wx) (fun _ x _=>nc-(intOf x).toNat)
       case atStart=>exact⟨0,fun _=>False,by omega,rfl,aD.nil (fun b hb=>hb.elim),(fun b hb=>hb.elim),Below.refl _ _⟩
       case round=>
        obtain⟨k3,S3,hk3,rfl,VY,jaz,Pg⟩:=hrel;obtain⟨wT,rfl⟩:∃x:World,x=wr:=⟨_,rfl⟩
        have OW3:=q_ VY;have SG3:=q_ jaz;have ZG:=q_ Pg;have BX3:=q_ (show Below w.heap.size w wT from BX2.o.trans (Pg.mono BX2.o.size));clear VY jaz Pg;by_cases Xu:k3<nc
        ·have q4:decide ((k3:Int)<(nc:Int))=true:=by simp;omega
         obtain⟨ad3,cp,u3,rfl,hb3,hx3,hr3,hc3⟩:=((CL.o.dB (ZG.o) (fun b h=>l_ (HS.o b h) BX2.o.size))).in1 rfl Xu;obtain⟨As,cs_,rfl,jaA,Ph⟩:=aU.av (E:=bN) hr3;have HT3:=q_ (kx hx3);have jbY:=q_ (show(rp.take k3).length<=nc from by rw[List.length_take];have:=HFC.o;omega);have KC:=q_ (clone_any cloneIS bN rfl As cp.length cs_ cp S wT (fun b h=>l_ (HS.o b h) BX3.o.size) jaA Ph);have hms:=jaA.le;clear hx3 hr3 Ph;go_wp2_with fail;refine KC.o.mono ?_;rintro e w4 ⟨v4,rfl,ZH,hb4⟩;have E4:=q_ (aD.made (E:=bN) ZH.TQ (fun b h=>h.elim) hms);obtain⟨A4,c4,rfl⟩:=ZH.shape;have O4:=q_ (OW3.o.grow hb4);have Ns:=q_ (AJ (w':=w4) SG3.o ZG.o.size);have B4:=q_ (ZG.o.trans (hb4.mono ZG.o.size));have XG:=q_ (aU.wide (E:=cJ) E4.o (S':=fun b=>S3 b\/New wT w4 b) (fun b h=> .inr h));generalize Jf:cp.length=ns at*;generalize rp.take k3=acc3 at*;clear ZH hb4
         go_wp2_with (at_builtin;refine ay rfl (.tmp 47) (.tmp 50) _ rfl itC (.slice none 0 0) 24 Tryz.underlying50 C1.o C2.o C3.o C4.o rfl rfl (O4.o.alloc (.cells #[.slice A4 ns c4] 31)) ⟨w4.heap.size,0,none⟩ 1 1 [cp] rfl rfl (cH XG.o O4.o.there) (by have:=jbY.o;omega) (by omega) (by have:=B4.o.size;simp;omega) ?_;intro o5 w5 eY cT qJ _;have O5:=q_ eY;have B5:=q_ ((B4.o.alloc B4.o.size (.cells #[.slice A4 ns c4] 31)).trans cT);clear eY cT qJ);go_roundw
         case rel=>exact⟨k3+1,_,by omega,by go_num,by rw[HT3.o];exact O5.o,Ns.o,B5.o⟩
         case measure=>simp[intOf];omega
        ·have q4:decide ((k3:Int)<(nc:Int))=false:=by simp;omega
         obtain rfl:k3=nc:=by omega
         have o3:=OW3.o;rw[List.take_of_length_le (by have:=HFC.o;omega)] at o3;have E4:=q_ (aD.made (E:=cJ) o3 SG3.o (by rw[HFC.o];exact hmc));obtain⟨A4,c4,hv4⟩:=o3.shape;rw[HFC.o] at hv4;subst hv4;have O4:=q_ (OW2.o.grow ZG.o);have Ns:=q_ (AJ (w':=wT) Sx.o Fy.o.size);have B4:=q_ (Fy.o.trans (ZG.o.mono Fy.o.size));have XG:=q_ (aU.wide (E:=jQ) E4.o (S':=fun b=>S2 b\/New wR wT b) (fun b h=> .inr h));generalize fd.take k2=Lm at*;clear o3;go_wp2_with (at_builtin;refine ay rfl (.tmp 53) (.tmp 55) _ rfl itR (.slice none 0 0) 24 Tryz.underlying49 R1.o R2.o R3.o R4.o rfl rfl (O4.o.alloc (.cells #[.slice A4 k3 c4] 50)) ⟨wT.heap.size,0,none⟩ 1 1 [rp] rfl rfl (cH XG.o O4.o.there) (by have:=jbX.o;omega) (by omega) (by have:=B4.o.size;simp;omega) ?_;intro o5 w5 eY cT qJ _;have O5:=q_ eY;have B5:=q_ ((B4.o.alloc B4.o.size (.cells #[.slice A4 k3 c4] 50)).trans cT);clear eY cT qJ);go_roundw
         case rel=>exact⟨k2+1,_,by omega,by go_num,by rw[HT2.o];exact O5.o,Ns.o,B5.o⟩
         case measure=>simp[intOf];omega
      ·have q3:decide ((k2:Int)<(nr:Int))=false:=by simp;omega
       obtain rfl:k2=nr:=by omega
       have o3:=OW2.o;rw[List.take_of_length_le (by have:=HFR.o;omega)] at o3;have E4:=q_ (aD.made (E:=jQ) o3 Sx.o (by rw[HFR.o];exact XF));obtain⟨A4,c4,hv4⟩:=o3.shape;rw[HFR.o] at hv4;subst hv4;have O4:=q_ (OW1.o.grow Fy.o);have Ns:=q_ (AJ (w':=wR) SG1.o hz1);have XG:=q_ (aU.wide (E:=cG) E4.o (S':=fun b=>S1 b\/New wQ wR b) (fun b h=> .inr h));have KB4:=q_ (KB1.o.below Fy.o KB1.o.lt);have hz4:wP.heap.size+2<=wR.heap.size:=t_ hz1 Fy.o.size;have BE4:=q_ (show Below wP.heap.size wP wR from VX.o.trans (Fy.o.mono VX.o.size));have BL4:=q_ (show Below (wP.heap.size+1) wb wR from BL1.o.trans (Fy.o.mono (by omega)));have zB:=KB4.o.cell;generalize sg.fields.take k1=jaB at*;clear o3
       go_wp2_with (first
        |(at_builtin;refine ay rfl (.tmp 59) (.tmp 61) _ rfl itF (.slice none 0 0) 24 Tryz.underlying46 F1.o F2.o F3.o F4.o rfl rfl (O4.o.alloc (.cells #[.slice A4 k2 c4] 49)) ⟨wR.heap.size,0,none⟩ 1 1 [fd] rfl rfl (cH XG.o O4.o.there) (by have:=jbV.o;omega) (by omega) (by rw[World.size_alloc];omega) ?_;intro o5 w5 eY cT qJ _;have Sz:=cT.size;obtain⟨A5,c5,Cn⟩:=eY.shape;simp only[List.length_append,List.length_singleton] at Cn;subst Cn;have O5:=q_ eY;have KB5:=q_ ((KB4.o.alloc (.cells #[.slice A4 k2 c4] 49)).below cT (by omega));have BF5:=q_ ((BL4.o.alloc (by omega) (.cells #[.slice A4 k2 c4] 49)).trans (cT.mono (by omega)));have z5:=KB5.o.cell;have hz6:wP.heap.size+2<=w5.heap.size:=(by rw[World.size_alloc] at Sz;omega);clear eY cT qJ zB Sz)
        |(refine bY rfl 46 (.tmp 63) (.tmp 62) rfl (wP.heap.size+1) 1 (.slice A5 (jaB.length+1) c5) (by rfl) (by rfl) KB5.o (by simp) (by kernel_rfl) (by rfl) ?_;intro w6 k6 g6;have XH:=q_ (show ar w6 (wP.heap.size+1) 48 #[.string sg.name,.slice A5 (jaB.length+1) c5] from k6);have O6:=q_ (O5.o.aK g6 (fun e=>by have:=(O5.o.aJ e).1;omega) (fun h=>by have:=Ns.o _ h;omega));have BF6:=q_ (BF5.o.trans (rZ g6 (by omega) (by omega)));have hz7:=g6.size;clear k6 g6 z5))
       go_roundw
       case rel=>exact⟨k1+1,_,_,by omega,by go_num,by rw[HT1.o];exact O6.o,Ns.o,XH.o,BF6.o,by omega⟩
       case measure=>simp[intOf];omega
    ·have q2:decide ((k1:Int)<(nf:Int))=false:=by simp;omega
     obtain rfl:k1=nf:=by omega
     have o3:=OW1.o;rw[List.take_of_length_le (by have:=SC.o;omega)] at o3;obtain⟨A4,c4,hv4⟩:=o3.shape;rw[SC.o] at hv4;subst hv4;have E4:=q_ (show dR.R wQ (New wP wQ) [.slice A4 k1 c4] sg.fields from o3.reads (fun b hb=>⟨by have:=SG1.o b hb;omega,o3.there b hb⟩) (fun g hg=>⟨by have:=(o3.aJ hg).1;omega,(o3.aJ hg).2⟩) (by rw[SC.o];exact Tu));have O4:=q_ (OW.o.grow VX.o);have Ns:=q_ (AJ (w':=wQ) SG.o hz3);have XG:=q_ (show aX.R wQ (fun b=>S' b\/New wP wQ b) [.string sg.name,.slice A4 k1 c4] sg from aX.mk uH (aU.wide E4.o (fun b h=> .inr h)));have K2q:=q_ (K2.o.below VX.o K2.o.lt);have K3q:=q_ (K3.o.below VX.o K3.o.lt);have hz4:w.heap.size+3<=wQ.heap.size:=t_ hz3 VX.o.size;have zB:=KB1.o.cell;have z3:=K3q.o.cell;generalize l.take k=acc at*;clear o3
     go_wp2_with (first
      |(at_builtin;refine ay rfl (.tmp 66) (.tmp 68) _ rfl itG (.agg #[.string ByteArray.empty,.slice none 0 0]) 40 Tryz.underlying25 G1.o G2.o G3.o G4.o rfl rfl (O4.o.alloc (.cells #[.string sg.name,.slice A4 k1 c4] 48)) ⟨wQ.heap.size,0,none⟩ 1 1 [sg] rfl rfl (cH XG.o O4.o.there) (by have:=qV.o;omega) (by omega) (by rw[World.size_alloc];omega) ?_;intro o5 w5 eY cT qJ _;have Sz:=cT.size;obtain⟨A5,c5,Cn⟩:=eY.shape;simp only[List.length_append,List.length_singleton] at Cn;subst Cn;have O5:=q_ eY;have K25:=q_ ((K2q.o.alloc (.cells #[.string sg.name,.slice A4 k1 c4] 48)).below cT (by omega));have K35:=q_ ((K3q.o.alloc (.cells #[.string sg.name,.slice A4 k1 c4] 48)).below cT (by omega));have BF5:=q_ ((BX1.o.alloc BX1.o.size (.cells #[.string sg.name,.slice A4 k1 c4] 48)).trans (cT.mono (by omega)));have z5:=K35.o.cell;have hz6:w.heap.size+3<=w5.heap.size:=(by rw[World.size_alloc] at Sz;omega);clear eY cT qJ zB z3 Sz)
      |(refine bY rfl 25 (.tmp 70) (.tmp 69) rfl (w.heap.size+2) 5 (.slice A5 (acc.length+1) c5) (by rfl) (by rfl) K35.o (by simp) (by kernel_rfl) (by rfl) ?_;intro w6 k6 g6;have K36:=q_ (show ar w6 (w.heap.size+2) 27 #[.int .u8 (d.f.toNat:Int),.int .u8 (d.c.toNat:Int),.int .u8 (d.r.toNat:Int),.int .u8 (d.e.toNat:Int),.int .u8 (d.s.toNat:Int),.slice A5 (acc.length+1) c5] from k6);have K26:=q_ (K25.o.aK g6 (by omega));have O6:=q_ (O5.o.aK g6 (fun e=>by have:=(O5.o.aJ e).1;omega) (fun h=>by have:=Ns.o _ h;omega));have BF6:=q_ (ai BF5.o g6 (by omega));have hz7:=g6.size;clear k6 g6 z5))
     go_roundw
     case rel=>exact⟨k+1,_,_,by omega,by go_num,by rw[HT.o];exact O6.o,Ns.o,K26.o,K36.o,BF6.o,by omega⟩
     case measure=>simp[intOf];omega
  ·have q1:decide ((k:Int)<(m:Int))=false:=by simp;omega
   obtain rfl:k=m:=by omega
   have o1:=OW.o;rw[List.take_of_length_le (by have:=HM.o;omega)] at o1;obtain⟨A5,c5,Cn⟩:=o1.shape;rw[HM.o] at Cn;subst Cn;have O1:=q_ o1;clear o1;have z3:=K3.o.cell;go_wp2_with (refine ah (cs':=#[.int .u8 (d.f.toNat:Int),.int .u8 (d.c.toNat:Int),.int .u8 (d.r.toNat:Int),.int .u8 (d.e.toNat:Int),.int .u8 (d.s.toNat:Int),.slice A5 k c5]) rfl 27 (.tmp 2) (.tmp 72) rfl (w.heap.size+1) (by rfl) (by rfl) K2.o rfl (by kernel_rfl) (by simp[Value.oneCell']) ?_;intro w6 k6 g6;have K6:=q_ k6;have G6:=q_ g6;clear k6 g6)
   (try simp only[Exit.inBlock,Exit.then]);have o6:=O1.o.aK G6.o (fun e=>by have:=(O1.o.aJ e).1;omega) (fun h=>by have:=SG.o _ h;omega);have dw:=ai BW.o G6.o (by omega);have hr6:=o6.reads (S':=New w w6) (fun b h=>⟨by have:=SG.o b h;omega,o6.there b h⟩) (fun g hg=>⟨by have:=(o6.aJ hg).1;omega,(o6.aJ hg).2⟩) (by rw[HM.o];exact hm);obtain⟨A6,c7,e6,jC,hl6⟩:=aU.av (E:=aX) hr6;rw[HM.o] at e6;injection e6 with e1 _ e3;subst e1 e3;exact bodyPost_ret (Pa rfl K6.o rfl rfl) rfl ⟨A5,c5,by rw[HM.o],jC,hl6,dw⟩
end
section
open Go Go.RowKit
def Jv(P:Program)(KP:List PanicEntry->World->Prop)(K:Value->World->Prop):Result Next->Prop
 | .ok (.value v) w'=>K v w'
 | .ok .skip w'=>K undef w'
 | .ok (.enter f args) w'=>Calls P f args w' fun e w''=>(∃u,e= .returned u/\K u w'')\/∃ch,e= .panicked ch/\KP ch w''
 |_=>False
def nZ(P:Program)(ops:Array Oper)(KP:List PanicEntry->World->Prop)(o:Oper)(a:Act)(w:World)(K:Value->World->Prop):Prop:=
 if Region.wanted o (yielded ops a.tmps)=true then Jv P KP K ((execOp a.eval o).run P w) else K undef w
attribute [go_sem] nZ Jv
theorem Dx{P:Program}{ops:Array Oper}{R:World->World->Prop}{B:Nat->Option (Value->World->Prop)}{late:List Nat}{w0:World}{n:Nat}{KP:List PanicEntry->World->Prop}{a a':Act}{c vs:Nat->Value}{listed:Array Bool}{w':World}{i:Nat}{o:Oper}{K:Value->World->Prop}{Q':Exit->Act->World->Prop}(hf:AK ops late n)(inv:Dy ops R B w0 n a c vs listed a' w')(hi:i<n)(ho:ops[i]? =some o)(hr:i∈Region.ready .any ops listed)(hP:∀ch a2 w2,a2.defers=a.defers->KP ch w2->Q' (.panic ch) a2 w2)(h:nZ P ops KP o (bE ops B a c vs i) w' K):wpOp P ops Q' i (fun a2 w2=>∃v,a2=a'.put o.dst v/\K v w2) a' w':=by
 obtain⟨e1,e2⟩:=qY hf inv hi ho hr;unfold nZ at h;rw[<-e1,<-e2] at h;unfold wpOp;simp only[ho];split
 ·rename_i hw
  simp only[hw,if_true] at h;refine .inl ?_;unfold Oper.wp;generalize (execOp a'.eval o).run P w'=r at*;cases r with
  |ok m w2=>
   cases m<;>simp only[Jv] at h<;>simp only[Oper.upon]
   case value u=>exact⟨u,rfl,h⟩
   case skip=>exact⟨undef,rfl,h⟩
   case enter f args=>
    refine Calls.mono h fun e w3 he=> ?_;rcases he with⟨u,rfl,hk⟩|⟨ch,rfl,hk⟩
    ·exact⟨u,rfl,hk⟩
    ·exact hP ch a' w3 inv.defers hk
   all_goals exact h.elim
  |halt x w2=>simp[Jv] at h
 ·rename_i hw
  simp only[hw] at h;exact⟨undef,rfl,h⟩
section
variable (P:Program) (ops:Array Oper) (KP:List PanicEntry->World->Prop) (I:(Nat->Bool)->(Nat->Value)->World->Prop) (F:List Nat)
def hZ(n:Nat)(Q:Act->World->Prop):List Oper->Nat->((Nat->Value)->Act)->Prop
 |[],_,A=>∀vs w,I (fun j=>decide (j<n)) vs w->Q (A vs) w
 |o::rest,k,A=>if F.contains k=true
  then(∀L vs w,I L vs w->Jw ops k L->L k=false->∀K:Value->World->Prop,(∀v w',I (upd L k) (aS vs k v) w'->K v w')->nZ P ops KP o (A vs) w K)/\hZ n Q rest (k+1) (fun vs=>(A vs).put o.dst (vs k))
  else∃v,(∀L vs w,I L vs w->Jw ops k L->L k=false->∀K:Value->World->Prop,(∀w',I (upd L k) (aS vs k v) w'->K v w')->nZ P ops KP o (A vs) w K)/\hZ n Q rest (k+1) (fun vs=>(A vs).put o.dst v)
end
section
variable {P:Program} {ops:Array Oper} {KP:List PanicEntry->World->Prop} {I:(Nat->Bool)->(Nat->Value)->World->Prop} {F:List Nat} {n:Nat}
structure Pj(P:Program)(ops:Array Oper)(KP:List PanicEntry->World->Prop)(I:(Nat->Bool)->(Nat->Value)->World->Prop)(F:List Nat)(n:Nat)(Q:Act->World->Prop)(a:Act)(c:Nat->Value)(k:Nat):Prop where
 step:∀i o,k<=i->i<n->ops[i]? =some o->∀L vs w,I L vs w->Jw ops i L->L i=false->nZ P ops KP o (bE ops (BB F) a c vs i) w fun v w'=>I (upd L i) (aS vs i v) w'/\(F.contains i=false->v=c i)
 last:∀vs w,I (fun j=>decide (j<n)) vs w->Q (bE ops (BB F) a c vs n) w
theorem oL{Q:Act->World->Prop}{a:Act}:∀(l:List Oper) (k:Nat) (A:(Nat->Value)->Act) (c:Nat->Value),(∀j,j<l.length->l[j]? =ops[k+j]?)->k+l.length=n->(∀vs,A vs=bE ops (BB F) a c vs k)->
 hZ P ops KP I F n Q l k A->∃c',(∀j,j<k->c' j=c j)/\Pj P ops KP I F n Q a c' k
 |[],k,A,c,_,hk,hA,h=>⟨c,fun _ _=>rfl,fun i o h1 h2=>by simp at hk;omega,fun vs w hi=>by
   have:k=n:=by simpa using hk
   subst this;rw[<-hA];exact h vs w hi⟩
 |o::l,k,A,c,hl,hk,hA,h=>by
  have h0:ops[k]? =some o:=by simpa using(hl 0 (by simp)).symm
  have hl':∀j,j<l.length->l[j]? =ops[k+1+j]? :=fun j hj=>by have:=hl (j+1) (by simp;omega);simpa[Nat.add_assoc,Nat.add_comm 1 j] using this
  have ye:k+1+l.length=n:=by simp at hk;omega
  unfold hZ at h;cases hF:F.contains k with
  |false=>
   simp only[hF,Bool.false_eq_true,if_false] at h;obtain⟨v,h1,h2⟩:=h
   let c1:Nat->Value:=fun j=>if j=k then v else c j
   have Dz:∀vs,(A vs).put o.dst v=bE ops (BB F) a c1 vs (k+1):=fun vs=>by
    unfold bE;rw[hA,ck (c:=c1) (c':=c) k (fun j hj=>by simp[c1];omega)];simp[h0,pP,Jx hF,c1]
   obtain⟨c2,hc2,hs⟩:=oL l (k+1) _ c1 hl' ye Dz h2;refine⟨c2,fun j hj=>by rw[hc2 j (by omega)];simp[c1];omega,fun i oi hi dr hoi L vs w hI hR hL=> ?_,hs.last⟩;by_cases hik:i=k
   ·subst hik
    have:oi=o:=i_ (hoi.symm.trans h0);subst this;rw[ck (c:=c2) (c':=c) i (fun j hj=>by rw[hc2 j (by omega)];simp[c1];omega),<-hA];exact h1 L vs w hI hR hL _ fun w' hw=>⟨hw,fun _=>by rw[hc2 i (by omega)];simp[c1]⟩
   ·exact hs.step i oi (by omega) dr hoi L vs w hI hR hL
  |true=>
   simp only[hF,if_true] at h;obtain⟨h1,h2⟩:=h
   have Dz:∀vs,(A vs).put o.dst (vs k)=bE ops (BB F) a c vs (k+1):=fun vs=>by
    unfold bE;rw[hA];simp[h0,pP,tX hF]
   obtain⟨c2,hc2,hs⟩:=oL l (k+1) _ c hl' ye Dz h2;refine⟨c2,fun j hj=>hc2 j (by omega),fun i oi hi dr hoi L vs w hI hR hL=> ?_,hs.last⟩;by_cases hik:i=k
   ·subst hik
    have:oi=o:=i_ (hoi.symm.trans h0);subst this;rw[ck (c:=c2) (c':=c) i (fun j hj=>hc2 j (by omega)),<-hA];exact h1 L vs w hI hR hL _ fun v w' hw=>⟨hw,fun hn=>by rw[hF] at hn;cases hn⟩
   ·exact hs.step i oi (by omega) dr hoi L vs w hI hR hL
theorem DA{a:Act}{c:Nat->Value}{w0:World}{Q:Act->World->Prop}{Q':Exit->Act->World->Prop}(hf:AK ops [] n)(hs:Pj P ops KP I F n Q a c 0)(hQ:∀a w,Q a w->wpList P ops Q' (ops.toList.drop n) a w)(hP:∀ch a2 w2,a2.defers=a.defers->KP ch w2->Q' (.panic ch) a2 w2):
 ∀(u:Nat) (vs:Nat->Value) (listed:Array Bool) (a':Act) (w':World),fP n listed=u->Dy ops (fun _ _=>True) (BB F) w0 n a c vs listed a' w'->I (fun j=>listed.getD j false) vs w'->wpAny P .any ops Q' (u+(ops.size-n)) listed a' w'
 |0,vs,listed,a',w',hu,inv,hI=>by
  have hall:∀j,j<n->listed.getD j true=true:=fun j hj=>by
   have:=List.countP_eq_zero.1 hu j (List.mem_range.2 hj);simpa using this
  have oa:∀j,j<n->listed.getD j false=true:=fun j hj=>by
   have h1:=hall j hj;have h2:j<listed.size:=by rw[inv.head.size];have:=hf.le;omega
   simpa[h2] using h1
  have e1:listed=Array.ofFn fun i:Fin ops.size=>decide (i.val<n):=by
   apply Array.ext (by simp[inv.head.size]);intro j h1 h2;have hj:j<ops.size:=by rw[<-inv.head.size];exact h1
   simp only[Array.getElem_ofFn];by_cases GJ:j<n
   ·have:=hall j GJ
    simpa[h1,GJ] using this
   ·have:=inv.head.tail j (by omega) hj
    simpa[h1,GJ] using this
  have e2:a'=bE ops (BB F) a c vs n:=by
   have hd:=(dm (ops:=ops) (B:=BB F) (a:=a) (c:=c) (vs:=vs) n).2;have hz:=(dm (ops:=ops) (B:=BB F) (a:=a) (c:=c) (vs:=vs) n).1
   have ht:a'.tmps=(bE ops (BB F) a c vs n).tmps:=by
    apply Array.ext_getElem?;intro d;by_cases hw:∃j o,j<n/\ops[j]? =some o/\o.dst=some d
    ·obtain⟨j,oj,hj,fQ,oc⟩:=hw
     rcases Nat.lt_or_ge d a.tmps.size with hs|hs
     ·rw[inv.slot j oj d hj fQ (oa j hj) oc hs,iT hf fQ oc hs n hj (n_)]
     ·rw[Array.getElem?_eq_none (by rw[inv.size];exact hs),Array.getElem?_eq_none (by rw[hz];exact hs)]
    ·rw[inv.other d fun j oj hj fQ _ oc=>hw ⟨j,oj,hj,fQ,oc⟩,gL n fun j oj hj fQ oc=>hw ⟨j,oj,hj,fQ,oc⟩]
   have hdd:=inv.defers.trans hd.symm;cases a';cases hx:bE ops (BB F) a c vs n;rw[hx] at ht hdd;simp only at ht hdd;rw[ht,hdd]
  subst e2
  have hLe:(fun j=>listed.getD j false)=fun j=>decide (j<n):=by
   funext j;rcases Nat.lt_or_ge j n with hj|hj
   ·rw[oa j hj];simp[hj]
   ·rcases Nat.lt_or_ge j listed.size with h1|h1
    ·have:=inv.head.tail j hj (by rw[<-inv.head.size];exact h1)
     rw[getD_both this];simp;omega
    ·simp[Array.getD_eq_getD_getElem?,Array.getElem?_eq_none h1]
     omega
  rw[hLe] at hI;have hq:=hQ _ _ (hs.last vs w' hI);have hlen:(ops.toList.drop n).length=ops.size-n:=by simp
  have:=wpAny_of_seq (md:= .any) (Q':=Q') (ops.toList.drop n) n listed _ w' (fun j=>by simp[List.getElem?_drop]) (by rw[hlen,e1];exact hf.seq) hq;rw[hlen] at this;simpa using this
 |u+1,vs,listed,a',w',hu,inv,hI=>by
  rw[show u+1+(ops.size-n)=(u+(ops.size-n))+1 by omega]
  have hex:∃j,j<n/\listed.getD j true=false:=by
   have:0<(List.range n).countP fun j=> !listed.getD j true:=by unfold fP at hu;omega
   obtain⟨j,hj,hp⟩:=List.countP_pos_iff.1 this;exact⟨j,List.mem_range.1 hj,by simpa using hp⟩
  have mj:∀d j,j<=d->j<n->listed.getD j true=false->∃i,i<n/\i∈Region.ready .any ops listed:=by
   intro d
   induction d with
   |zero=>
    intro j hjd hj fR;have nt:j=0:=by omega
    subst nt;obtain⟨oj,fQ⟩:∃oj,ops[0]? =some oj:=⟨_,Array.getElem?_eq_getElem (by have:=hf.le;omega)⟩
    exact⟨0,hj,mem_ready.2 ⟨fR,oj,fQ,fun e he hb=>by have:=hf.after 0 oj fQ e he hb;omega⟩⟩
   |succ d ih=>
    intro j hjd hj fR;obtain⟨oj,fQ⟩:∃oj,ops[j]? =some oj:=⟨_,Array.getElem?_eq_getElem (by have:=hf.le;omega)⟩
    by_cases hall:∀e∈oj.after,Region.binds .any e=true->listed.getD e.on false=true
    ·exact⟨j,hj,mem_ready.2 ⟨fR,oj,fQ,hall⟩⟩
    ·simp only[Classical.not_forall] at hall
     obtain⟨e,he,hb,hno⟩:=hall;have hlt:=hf.after j oj fQ e he hb;exact ih e.on (by omega) (by omega) (getD_in (by rw[inv.head.size];have:=hf.le;omega) (by simpa using hno))
  obtain⟨j0,nt,DB⟩:=hex
  have fJ:∀i,i<n->listed.getD i true=false->fP n (listed.setIfInBounds i true)=u:=fun i dr fR=>by
   have Pk:i<listed.size:=by rw[inv.head.size];have:=hf.le;omega
   have hc:=tY (fun j=> !listed.getD j true) (fun j=> !(listed.setIfInBounds i true).getD j true) i (fun j hj=>by simp only[getD_set_ne true (Ne.symm hj)]) (by simp[Pk]) (by simp only[fR];rfl) n dr;unfold fP at hu⊢;omega
  refine⟨fun h0=> ?_,fun i hr=> ?_⟩
  ·obtain⟨i,_,hi⟩:=mj j0 j0 (n_) nt DB
   rw[h0] at hi;cases hi
  ·obtain⟨fR,o,ho,hall⟩:=mem_ready.1 hr
   have Pl:i<ops.size:=(Array.getElem?_eq_some_iff.1 ho).1
   have dr:i<n:=by
    rcases Nat.lt_or_ge i n with h|h
    ·exact h
    ·exfalso
     obtain⟨bu,hw2⟩:=hf.waits (by omega)
     have Pm:i=n:=by
      rcases Nat.lt_or_ge n i with h2|h2
      ·exfalso
       have h3:=List.all_eq_true.1 hw2 i (List.mem_range.2 Pl);simp only[Bool.or_eq_true,decide_eq_true_eq] at h3;rcases h3 with h3|h3
       ·omega
       ·obtain⟨o',Ln,e,he,hb,sf⟩:=Region.waitsFor_spec h3
        have:o'=o:=i_ (Ln.symm.trans ho);subst this;have h4:=hall e he hb;rw[sf,getD_both (inv.head.tail (i-1) (by omega) (by omega))] at h4;cases h4
      ·omega
     subst Pm;obtain⟨j,hj,ZI⟩:=mj j0 j0 (n_) nt DB
     have DC:([]:List Nat).contains j=true:=by
      cases hc:([]:List Nat).contains j with
      |true=>rfl
      |false=>
       rcases iA inv.head.closed (fun j' hw=>by
        obtain⟨o',Ln,e,he,hb,sf⟩:=Region.waitsFor_spec hw;have:o'=o:=i_ (Ln.symm.trans ho);subst this;rw[<-sf];exact hall e he hb) _ j (bu j hj hc) with h4|h4
       ·omega
       ·rw[getD_both (mem_ready.1 ZI).1] at h4
        cases h4
     simp at DC
   have Pn:Jw ops i (fun j=>listed.getD j false):=fun j hwt=>by
    obtain⟨oi,hoi,e,he,hb,sf⟩:=Region.waitsFor_spec hwt;have:oi=o:=i_ (hoi.symm.trans ho);subst this;have h1:=hall e he hb;rw[sf] at h1;exact h1
   have hstep:=hs.step i o (Nat.zero_le _) dr ho _ vs w' hI Pn (getD_both fR);refine wpOp_mono (fun a2 w2 h2=> ?_) (Dx hf inv dr ho hr hP hstep);obtain⟨v,rfl,hI2,hv⟩:=h2
   refine DA hf hs hQ hP u (fun j=>if j=i then v else vs j) _ _ w2 (fJ i dr fR) (tZ hf inv dr ho hr trivial (fun j φ v lI hp=>by
    unfold BB at lI;split at lI
    ·cases lI;trivial
    ·cases lI) (fun φ lI=>by
    unfold BB at lI;split at lI
    ·cases lI;trivial
    ·cases lI) (fun hB=>hv (by
    cases hc:F.contains i with
    |false=>rfl
    |true=>rw[tX hc] at hB;cases hB))) ?_
   have e1:(fun j=>(listed.setIfInBounds i true).getD j false)=upd (fun j=>listed.getD j false) i:=by
    funext j;unfold upd;by_cases qZ:j=i
    ·subst qZ
     have hsz:j<listed.size:=by rw[inv.head.size];exact(Array.getElem?_eq_some_iff.1 ho).1
     simp[hsz]
    ·rw[if_neg qZ,getD_set_ne false (Ne.symm qZ)]
   rw[e1];exact hI2
theorem ak{id:Nat}{Q:Exit->Act->World->Prop}{a:Act}{w:World}{l:List Oper}(n:Nat)(F:List Nat)(I:(Nat->Bool)->(Nat->Value)->World->Prop)(hm:P.follows .mixedOrders=true)(hB:yC l.toArray [] n=true)(h0:I (fun _=>false) (fun _=>undef) {w with drawn:=w.drawn+1})(hP:∀ch a2 w2,a2.defers=a.defers->KP ch w2->Q (.panic ch) a2 w2)(h:hZ P l.toArray KP I F n (fun a w=>∀KK:Exit->Act->World->Prop,(∀e a w,Q e a w->KK e a w)->wpList P l.toArray KK (l.drop n) a w) (l.take n) 0 (fun _=>a)):(Code.region id l.toArray true).wp P Q a w:=by
 have hf:=AL hB;have oG:n<=l.length:=by simpa using hf.le
 obtain⟨c,_,hs⟩:=oL (ops:=l.toArray) (n:=n) (a:=a) (l.take n) 0 (fun _=>a) (fun _=>undef) (fun j hj=>by simp at hj;simp[hj]) (by simp;omega) (fun vs=>rfl) h;refine wp_region_any hm ?_
 have hu:fP n (Array.replicate l.toArray.size false)=n:=by
  unfold fP
  have:∀j∈List.range n,(!(Array.replicate l.toArray.size false).getD j true)=true:=fun j hj=>by
   have:=List.mem_range.1 hj;simp[show j<l.length by omega]
  rw[List.countP_eq_length.2 this];simp
 have:=DA (F:=F) (I:=I) (w0:=w) (c:=c) (Q':=Q) hf hs (fun a w hq=>by simpa using hq Q (fun _ _ _ h=>h)) hP n (fun _=>undef) (Array.replicate l.toArray.size false) a {w with drawn:=w.drawn+1} hu
  ⟨⟨by simp,fun j oj _ hl=>(by rw[getD_replicate_false] at hl;cases hl),fun t _ ht=>getD_in (by simpa using ht) (getD_replicate_false _ _)⟩,trivial,fun j φ _ _ hl=>(by rw[getD_replicate_false] at hl;cases hl),rfl,rfl,fun _ _=>rfl,fun j o d _ _ hl=>(by rw[getD_replicate_false] at hl;cases hl)⟩ (by
  have e:(fun j=>(Array.replicate l.toArray.size false).getD j false)=fun _=>false:=by
   funext j;exact getD_replicate_false _ _
  rw[e];exact h0)
 rwa [show n+(l.toArray.size-n)=l.toArray.size by simp;omega] at this
theorem aw{Q:Act->World->Prop}{k:Nat}{A:(Nat->Value)->Act}(h:∀vs w,I (fun j=>decide (j<n)) vs w->Q (A vs) w):hZ P ops KP I F n Q [] k A:=h
theorem ae{Q:Act->World->Prop}{o:Oper}{rest:List Oper}{k:Nat}{A:(Nat->Value)->Act}{v:Value}(hF:F.contains k=false)(h1:∀L vs w,I L vs w->Jw ops k L->L k=false->∀K:Value->World->Prop,(∀w',I (upd L k) (aS vs k v) w'->K v w')->nZ P ops KP o (A vs) w K)(h2:∀KK:((Nat->Value)->Act)->Prop,(∀A',hZ P ops KP I F n Q rest (k+1) A'->KK A')->KK (fun vs=>(A vs).put o.dst v)):hZ P ops KP I F n Q (o::rest) k A:=by
 unfold hZ;rw[if_neg (by rw[hF];simp)];exact⟨v,h1,h2 _ fun _ h=>h⟩
theorem bc{Q:Act->World->Prop}{o:Oper}{rest:List Oper}{k:Nat}{A:(Nat->Value)->Act}(hF:F.contains k=true)(h1:∀L vs w,I L vs w->Jw ops k L->L k=false->∀K:Value->World->Prop,(∀v w',I (upd L k) (aS vs k v) w'->K v w')->nZ P ops KP o (A vs) w K)(h2:∀KK:((Nat->Value)->Act)->Prop,(∀A',hZ P ops KP I F n Q rest (k+1) A'->KK A')->KK (fun vs=>(A vs).put o.dst (vs k))):hZ P ops KP I F n Q (o::rest) k A:=by
 unfold hZ;rw[if_pos hF];exact⟨h1,h2 _ fun _ h=>h⟩
end
end
section
open Go Go.RowKit Go.BigFrame
def eh(v:M.Val):Value:= .agg #[.int .i64 v.kind,.string v.text,.int .i64 v.num,.bool v.truth]
def dt(k:Int):Ending:= .panicked [{v:= .iface 36 (.int .i64 k),recovered:=false}]
def dD:Except Int M.Val->Ending
 | .ok v=> .returned (eh v)
 | .error k=>dt k
structure iF(v:M.Val):Prop where
 text:v.text.size<=1048576
 lo:0<=v.num
 hi:v.num<=2147483647
theorem aq(hgd:op.guard=none)(x y:Operand)(ho:op.op= .store 33 x y)(b:Nat)(v:M.Val)(hx:a.eval x= .pointer (some ⟨b,0,none⟩))(hy:a.eval y=eh v)(hk:ar w b 33 cs)(hs:cs.size=4)(h:∀w',ar w' b 33 #[.int .i64 v.kind,.string v.text,.int .i64 v.num,.bool v.truth]->w.grownBy w' (some b)->wpList Tryz.prog ops Q rest (a.put op.dst undef) w'):wpList Tryz.prog ops Q (op::rest) a w:=
 ah (cs':=#[.int .i64 v.kind,.string v.text,.int .i64 v.num,.bool v.truth]) hgd 33 x y ho b hx hy hk hs.symm (by kernel_rfl) (by simp[Value.oneCell']) h
theorem aT(hf:fn.results=#[.cell p 33]){v:M.Val}(hW:ar W g 33 #[.int .i64 v.kind,.string v.text,.int .i64 v.num,.bool v.truth])(h2:tmps.getD p undef= .pointer (some ⟨g,0,none⟩)):
 (results fn tmps).run Tryz.prog W= .ok (eh v) W:=by
 rw[jE hf,h2];have hi:(Tryz.prog.info? 33).map (·.size)=some 4:=by kernel_rfl
 have h:=run_loadVar_row (P:=Tryz.prog) W g 33 33 #[.int .i64 v.kind,.string v.text,.int .i64 v.num,.bool v.truth] (0,0) _ hW Tryz.underlying33 rfl hi;simp only[asAddr,Sem.run_pure,Result.andThen_ok,h];rfl
theorem cR(s:ByteArray)(w:World):Calls Tryz.prog 160 #[.string s] w fun e w'=>e= .returned (eh (M.br s))/\Below w.heap.size w w':=by
 have K1:=q_ (ar.new w 33 #[.int .i64 0,.string ⟨#[]⟩,.int .i64 0,.bool false]);have B1:=q_ ((Below.refl _ w).alloc (n_) (.cells #[.int .i64 0,.string ⟨#[]⟩,.int .i64 0,.bool false] 33));go_enter Tryz.func160,Tryz.ntmps160;go_wp2_with (refine aq rfl (.tmp 2) (.tmp 4) rfl w.heap.size (M.br s) (by rfl) (by rfl) (K1.o) rfl ?_;intro w3 k3 g3;have K3:=q_ k3;have B3:=q_ (ai B1.o g3 (by omega));clear k3 g3)
 (try simp only[Exit.inBlock,Exit.then]);exact bodyPost_ret (aT rfl K3.o rfl) rfl ⟨rfl,B3.o⟩
theorem iG(s:Int)(w:World):Calls Tryz.prog 161 #[.int .i64 s] w fun e w'=>e= .returned (eh (M.fx s))/\Below w.heap.size w w':=by
 have K1:=q_ (ar.new w 33 #[.int .i64 0,.string ⟨#[]⟩,.int .i64 0,.bool false]);have B1:=q_ ((Below.refl _ w).alloc (n_) (.cells #[.int .i64 0,.string ⟨#[]⟩,.int .i64 0,.bool false] 33));go_enter Tryz.func161,Tryz.ntmps161;go_wp2_with (refine aq rfl (.tmp 2) (.tmp 4) rfl w.heap.size (M.fx s) (by rfl) (by rfl) (K1.o) rfl ?_;intro w3 k3 g3;have K3:=q_ k3;have B3:=q_ (ai B1.o g3 (by omega));clear k3 g3)
 (try simp only[Exit.inBlock,Exit.then]);exact bodyPost_ret (aT rfl K3.o rfl) rfl ⟨rfl,B3.o⟩
theorem cm(s:Bool)(w:World):Calls Tryz.prog 162 #[.bool s] w fun e w'=>e= .returned (eh (M.bk s))/\Below w.heap.size w w':=by
 have K1:=q_ (ar.new w 33 #[.int .i64 0,.string ⟨#[]⟩,.int .i64 0,.bool false]);have B1:=q_ ((Below.refl _ w).alloc (n_) (.cells #[.int .i64 0,.string ⟨#[]⟩,.int .i64 0,.bool false] 33));go_enter Tryz.func162,Tryz.ntmps162;go_wp2_with (refine aq rfl (.tmp 2) (.tmp 4) rfl w.heap.size (M.bk s) (by rfl) (by rfl) (K1.o) rfl ?_;intro w3 k3 g3;have K3:=q_ k3;have B3:=q_ (ai B1.o g3 (by omega));clear k3 g3)
 (try simp only[Exit.inBlock,Exit.then]);exact bodyPost_ret (aT rfl K3.o rfl) rfl ⟨rfl,B3.o⟩
theorem q9(w:World):Calls Tryz.prog 168 #[.int .i64 0] w fun x w'=>x= .returned (.tuple #[])/\w'=w:=by
 go_enter Tryz.func168,Tryz.ntmps168;go_wp2;go_end0;exact⟨rfl,rfl⟩
theorem vo(k:Int)(hk:k≠0)(w:World):Calls Tryz.prog 168 #[.int .i64 k] w fun x w'=>x=dt k/\w'=w:=by
 have q1:(k==0)=false:=by simp[hk]
 clear hk;go_enter Tryz.func168,Tryz.ntmps168;go_wp2;exact⟨rfl,rfl,rfl⟩
theorem ra(s:ByteArray)(w:World):Calls Tryz.prog 163 #[.string s] w fun e w'=>e=dD (M.short s)/\Below w.heap.size w w':=by
 have K1:=q_ (ar.new w 33 #[.int .i64 0,.string ⟨#[]⟩,.int .i64 0,.bool false]);have B1:=q_ ((Below.refl _ w).alloc (n_) (.cells #[.int .i64 0,.string ⟨#[]⟩,.int .i64 0,.bool false] 33));by_cases h:4096<s.size
 ·have q1:decide (4096<(s.size:Int))=true:=by simp;omega
  have HS:=q_ (show M.short s= .error 2 from if_pos h);clear h;go_enter Tryz.func163,Tryz.ntmps163;go_wp2;exact⟨rfl,by rw[HS.o];rfl,B1.o⟩
 ·have q1:decide (4096<(s.size:Int))=false:=by simp;omega
  have HS:=q_ (show M.short s= .ok (M.br s) from if_neg h);clear h;go_enter Tryz.func163,Tryz.ntmps163;go_wp2_with fail;refine(cR _ _).mono ?_
  rintro e w2 ⟨rfl,hb⟩;have B2:=q_ (B1.o.trans (hb.mono B1.o.size));have K2:=q_ (K1.o.below hb K1.o.lt);clear hb;go_wp2_with (refine aq rfl (.tmp 2) (.tmp 8) rfl w.heap.size (M.br s) (by rfl) (by rfl) (K2.o) rfl ?_;intro w3 k3 g3;have K3:=q_ k3;have B3:=q_ (ai B2.o g3 (by omega));clear k3 g3)
  (try simp only[Exit.inBlock,Exit.then]);exact bodyPost_ret (aT rfl K3.o rfl) rfl ⟨by rw[HS.o];rfl,B3.o⟩
theorem pQ(r:Except Int ByteArray)(s:ByteArray)(k:Int)(hr:(r= .ok s/\k=0)\/(r= .error k/\k≠0))(w:World):Calls Tryz.prog 222 #[.string s,.int .i64 k] w fun e w'=>e=dD (M.told r)/\Below w.heap.size w w':=by
 have K1:=q_ (ar.new w 33 #[.int .i64 0,.string ⟨#[]⟩,.int .i64 0,.bool false]);have B1:=q_ ((Below.refl _ w).alloc (n_) (.cells #[.int .i64 0,.string ⟨#[]⟩,.int .i64 0,.bool false] 33));rcases hr with⟨rfl,rfl⟩|⟨rfl,h⟩
 ·go_enter Tryz.func222,Tryz.ntmps222
  go_wp2_with fail;refine(q9 _).mono ?_
  rintro e w2 ⟨rfl,h2⟩;have h2:=h2.symm;subst h2;go_wp2_with fail;refine(cR _ _).mono ?_
  rintro e w2 ⟨rfl,hb⟩;have B2:=q_ (B1.o.trans (hb.mono B1.o.size));have K2:=q_ (K1.o.below hb K1.o.lt);clear hb;go_wp2_with (refine aq rfl (.tmp 4) (.tmp 8) rfl w.heap.size (M.br s) (by rfl) (by rfl) (K2.o) rfl ?_;intro w3 k3 g3;have K3:=q_ k3;have B3:=q_ (ai B2.o g3 (by omega));clear k3 g3)
  (try simp only[Exit.inBlock,Exit.then]);exact bodyPost_ret (aT rfl K3.o rfl) rfl ⟨rfl,B3.o⟩
 ·have H:=q_ h
  clear h;go_enter Tryz.func222,Tryz.ntmps222;go_wp2_with fail;refine(vo k H.o _).mono ?_
  rintro e w2 ⟨rfl,h2⟩;have h2:=h2.symm;subst h2;unfold dt;go_wp2;exact⟨rfl,rfl,B1.o⟩
theorem AO(a b:ByteArray)(w:World):
 Calls Tryz.prog 272 #[.string a,.string b] w fun e w'=>e= .returned (.int .i64 (P.cmp a.data.toList b.data.toList))/\w=w':=by
 go_enter Tryz.func272,Tryz.ntmps272;go_wp2_with (go_at_call 281;refine(Tryz.strings_Compare _ _ _).mono ?_;rintro e w' ⟨rfl,hw⟩);subst hw;go_ret;exact⟨rfl,rfl⟩
theorem Lp(a b:M.Val)(ha:iF a)(hb:iF b)(w:World):Calls Tryz.prog 238 #[.agg #[.int .i64 a.kind,.string a.text,.int .i64 a.num,.bool a.truth],.agg #[.int .i64 b.kind,.string b.text,.int .i64 b.num,.bool b.truth]] w fun e w'=>e= .returned (.int .i64 (M.order a b))/\Below w.heap.size w w':=by
 obtain⟨a1,a2,a3⟩:=ha;obtain⟨b1,b2,b3⟩:=hb;have B1:=q_ (((Below.refl _ w).alloc (n_) (.cells #[.int .i64 a.kind,.string a.text,.int .i64 a.num,.bool a.truth] 33)).alloc (by simp) (.cells #[.int .i64 b.kind,.string b.text,.int .i64 b.num,.bool b.truth] 33));by_cases h:a.kind=1
 ·have q1:(a.kind==1)=true:=by simp[h]
  have HS:=q_ (show M.order a b=P.cmp a.text.data.toList b.text.data.toList from if_pos h);have KC:=q_ (fun W=>AO a.text b.text W);clear h a1 a2 a3 b1 b2 b3;go_enter Tryz.func238,Tryz.ntmps238;go_wp2_with (go_at_call 272;refine(KC.o _).mono ?_;rintro e w' ⟨rfl,rfl⟩);go_ret;exact⟨by rw[HS.o];rfl,B1.o⟩
 ·have q1:(a.kind==1)=false:=by simp[h]
  have hw:IntKind.i64.wrap (a.num-b.num)=a.num-b.num:=IntWalk.i64_in _ ⟨by omega,by omega⟩
  have HS:=q_ (show M.order a b=min (max (a.num-b.num) (-1)) 1 by
   unfold M.order M.ZB M.kr;rw[if_neg h,hw];split
   ·omega
   ·split<;>omega)
  clear h;go_enter Tryz.func238,Tryz.ntmps238;go_wp2;go_ret;exact⟨by rw[HS.o];rfl,B1.o⟩
theorem Po(a b:M.Val)(ha:iF a)(hb:iF b)(w:World):Calls Tryz.prog 239 #[.agg #[.int .i64 a.kind,.string a.text,.int .i64 a.num,.bool a.truth],.agg #[.int .i64 b.kind,.string b.text,.int .i64 b.num,.bool b.truth]] w fun e w'=>e=dD (M.plusV a b)/\Below w.heap.size w w':=by
 obtain⟨a1,a2,a3⟩:=ha;obtain⟨b1,b2,b3⟩:=hb;have jar:(a.text++b.text).size=a.text.size+b.text.size:=ByteArray.size_append;have B1:=q_ ((((Below.refl _ w).alloc (n_) (.cells #[.int .i64 a.kind,.string a.text,.int .i64 a.num,.bool a.truth] 33)).alloc (by simp) (.cells #[.int .i64 b.kind,.string b.text,.int .i64 b.num,.bool b.truth] 33)).alloc (by simp;omega) (.cells #[.int .i64 0,.string ⟨#[]⟩,.int .i64 0,.bool false] 33));have K1:=q_ (ar.new ((w.alloc (.cells #[.int .i64 a.kind,.string a.text,.int .i64 a.num,.bool a.truth] 33)).alloc (.cells #[.int .i64 b.kind,.string b.text,.int .i64 b.num,.bool b.truth] 33)) 33 #[.int .i64 0,.string ⟨#[]⟩,.int .i64 0,.bool false]);have s1:((w.alloc (.cells #[.int .i64 a.kind,.string a.text,.int .i64 a.num,.bool a.truth] 33)).alloc (.cells #[.int .i64 b.kind,.string b.text,.int .i64 b.num,.bool b.truth] 33)).heap.size=w.heap.size+2:=by simp
 rw[s1] at K1;by_cases h:a.kind=1
 ·have q1:(a.kind==1)=true:=by simp[h]
  have HS:=q_ (show M.plusV a b=M.short (a.text++b.text) from if_pos h);clear h a2 a3 b2 b3;go_enter Tryz.func239,Tryz.ntmps239;go_wp2_with fail;refine(ra _ _).mono ?_
  rintro e w2 ⟨he,hb⟩;have B2:=q_ (B1.o.trans (hb.mono B1.o.size));have K2:=q_ (K1.o.below hb K1.o.lt);have ES:=q_ he;clear hb he;unfold M.short at ES;by_cases h4:4096<(a.text++b.text).size
  ·have qK:=q_ (show M.plusV a b= .error 2 by rw[HS.o];exact if_pos h4)
   rw[if_pos h4] at ES;obtain rfl:=ES.o;unfold dD dt;go_wp2;exact⟨rfl,by rw[qK.o];rfl,B2.o⟩
  ·have qK:=q_ (show M.plusV a b= .ok (M.br (a.text++b.text)) by rw[HS.o];exact if_neg h4)
   rw[if_neg h4] at ES;obtain rfl:=ES.o;unfold dD;go_wp2_with (refine aq rfl (.tmp 4) (.tmp 13) rfl (w.heap.size+2) (M.br (a.text++b.text)) (by rfl) (by rfl) (K2.o) rfl ?_;intro w3 k3 g3;have K3:=q_ k3;have B3:=q_ (ai B2.o g3 (by omega));clear k3 g3)
   (try simp only[Exit.inBlock,Exit.then]);exact bodyPost_ret (aT rfl K3.o rfl) rfl ⟨by rw[qK.o];rfl,B3.o⟩
 ·have q1:(a.kind==1)=false:=by simp[h]
  have hw:IntKind.i64.wrap (a.num+b.num)=a.num+b.num:=IntWalk.i64_in _ ⟨by omega,by omega⟩
  have HS:=q_ (show M.plusV a b=if 2147483647<a.num+b.num then .error 11 else .ok (M.fx (a.num+b.num)) by
   unfold M.plusV M.ZB;rw[if_neg h,hw])
  clear h;by_cases h4:2147483647<a.num+b.num
  ·have q2:decide (2147483647<a.num+b.num)=true:=decide_eq_true h4
   have qK:=q_ (HS.o.trans (if_pos h4));clear h4;go_enter Tryz.func239,Tryz.ntmps239;go_wp2;exact⟨rfl,by rw[qK.o];rfl,B1.o⟩
  ·have q2:decide (2147483647<a.num+b.num)=false:=decide_eq_false h4
   have qK:=q_ (HS.o.trans (if_neg h4));clear h4;go_enter Tryz.func239,Tryz.ntmps239;go_wp2_with fail;refine(iG _ _).mono ?_
   rintro e w2 ⟨rfl,hb⟩;have B2:=q_ (B1.o.trans (hb.mono B1.o.size));have K2:=q_ (K1.o.below hb K1.o.lt);clear hb;go_wp2_with (refine aq rfl (.tmp 4) (.tmp 26) rfl (w.heap.size+2) (M.fx (a.num+b.num)) (by rfl) (by rfl) (K2.o) rfl ?_;intro w3 k3 g3;have K3:=q_ k3;have B3:=q_ (ai B2.o g3 (by omega));clear k3 g3)
   (try simp only[Exit.inBlock,Exit.then]);exact bodyPost_ret (aT rfl K3.o rfl) rfl ⟨by rw[qK.o];rfl,B3.o⟩
end
end Go.Proofs.YtpohlhkgbmdieaaGreatDoor
