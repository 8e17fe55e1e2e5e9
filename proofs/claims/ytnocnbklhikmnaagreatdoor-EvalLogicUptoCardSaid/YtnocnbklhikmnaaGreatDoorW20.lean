/- Part 20 of the proof. -/
import Derived.Test.YtnocnbklhikmnaaGreatDoorW4
import Derived.Test.YtnocnbklhikmnaaGreatDoorW5
set_option linter.unusedVariables false
set_option maxRecDepth 1000000
set_option maxHeartbeats 16000000
namespace Go.Proofs.YtnocnbklhikmnaaGreatDoor
variable{P:Program}{Q:Exit->Act->World->Prop}{a:Act}{cs:Array Value}{g:Nat}{op:Oper}{ops:Array Oper}{rest:List Oper}{t:TypeId}{w:World}
open Go Go.RowKit Go.BigFrame
theorem oneCell_cells{v:Value}(h:v.oneCell'=true):v.cells=#[v]:=by
 cases v<;>first|rfl|(simp[Value.oneCell'] at h)
theorem wpList_store_one(hgd:op.guard=none)(ty:TypeId)(x y:Operand)(ho:op.op= .store ty x y)(b i:Nat)(v:Value)(hx:a.eval x= .pointer (some ⟨b,i,none⟩))(hy:a.eval y=v)(hk:Blk w b t cs)(hi:i<cs.size)(hsz:(P.info? ty).map (·.size)=some 1)(h1:v.oneCell'=true)(h:∀w',Blk w' b t (cs.setIfInBounds i v)->w.grownBy w' (some b)->wpList P ops Q rest (a.put op.dst undef) w'):wpList P ops Q (op::rest) a w:=by
 refine wpList_plain hgd fun K' hK'=> ?_
 have hs:(storeVar ty ⟨b,i,none⟩ v).run P w= .ok () (w.setCells b i [v]):=by
  have:=run_storeCells_cells (P:=P) b i [v] 0 w (fun j hj=>by
   simp at hj;subst hj;rw[show i+0+0=i by omega,hk.cell];simp[hi]) (fun j hj=>by
   simp at hj;subst hj;exact hk.frozen _) (fun u hu=>by simp at hu;subst hu;exact h1)
  cases hq:P.info? ty with
  |none=>simp[hq] at hsz
  |some i'=>
   have hs:i'.size=1:=by simpa[hq] using hsz
   simp only[Nat.add_zero] at this;simp[storeVar,sizeOf,typeInfo,hq,oneCell_cells h1,hs,this]
 unfold Oper.wp execOp;simp only[ho,hx,hy,Instr.storeAt,Instr.sureAddr,Sem.run_bind,Sem.run_pure,Result.andThen_ok,hs];exact hK' _ _ (h _ (hk.set_ i v) (grown_set w b i v))
theorem Blk.there_(h:Blk w g t cs)(o n:Nat)(hn:o+n<=cs.size):w.there g o n:=fun j hj=>by
 exact⟨by rw[h.cell,Array.getElem?_eq_getElem (by omega)];rfl,h.frozen _⟩
theorem wpList_store_part{cs' cs2:Array Value}(hgd:op.guard=none)(ty:TypeId)(x y:Operand)(ho:op.op= .store ty x y)(b o:Nat)(hx:a.eval x= .pointer (some ⟨b,o,none⟩))(hy:a.eval y= .agg cs')(hk:Blk w b t cs)(hs:o+cs'.size<=cs.size)(h2:cs2.toList=cs.toList.take o++cs'.toList++cs.toList.drop (o+cs'.size))(hi:(P.info? ty).map (·.size)=some cs'.size)(h1:cs'.all (·.oneCell')=true)(h:∀w',Blk w' b t cs2->w.grownBy w' (some b)->wpList P ops Q rest (a.put op.dst undef) w'):wpList P ops Q (op::rest) a w:=by
 obtain⟨cs3,k1,k2,k3⟩:=Blk.setCells_get cs'.toList o cs w hk (by simpa using hs)
 have e:cs3=cs2:=by
  apply Array.ext_getElem?;intro i;rw[k3,<-Array.getElem?_toList (xs:=cs2),h2];have hlo:(cs.toList.take o).length=o:=by rw[List.length_take];simp;omega
  by_cases hio:i<o
  ·rw[if_neg (by omega),List.append_assoc,List.getElem?_append_left (by omega),List.getElem?_take_of_lt hio]
   simp
  ·by_cases hi2:i<o+cs'.size
   ·rw[if_pos (by simp;omega),List.append_assoc,List.getElem?_append_right (by omega),hlo,List.getElem?_append_left (by simp;omega)]
   ·rw[if_neg (by simp;omega),List.getElem?_append_right (by rw[List.length_append,hlo];simp;omega),List.getElem?_drop]
    rw[List.length_append,hlo,show o+cs'.size+(i-(o+cs'.toList.length))=i by simp;omega];simp
 subst e;exact wpList_store_mid hgd ty x y ho b o cs' hx hy (hk.there_ o cs'.size hs) hi h1 (h _ k1 (grown_setCells b _ o w))
theorem results_cell_tmp2{fn:Func}{p u v:Tmp}{ty:TypeId}(h:fn.results=#[.cell p ty,.tmp u,.tmp v])(tmps:Array Value)(P:Program)(w:World):
 (results fn tmps).run P w=
   ((asAddr (tmps.getD p undef)).run P w).andThen fun a w₁=>((loadVar ty a).run P w₁).andThen fun x w₂=> .ok (.tuple #[x,tmps.getD u undef,tmps.getD v undef]) w₂:=by
 simp only[results,h];simp[Sem.run_bind,Result.andThen]
theorem bare_res{W:World}{tmps:Array Value}{v3 v4:Value}(hW:Blk W g 144 cs)(hl:cs.size=10)(h2:tmps.getD 2 undef= .pointer (some ⟨g,0,none⟩))(h3:tmps.getD 3 undef=v3)(h4:tmps.getD 4 undef=v4):
 (results Tryz.f253 tmps).run Tryz.prog W= .ok (.tuple #[.agg cs,v3,v4]) W:=by
 rw[results_cell_tmp2 rfl,h2,h3,h4];have hi:(Tryz.prog.info? 144).map (·.size)=some cs.size:=by rw[hl];kernel_rfl
 have h:=run_loadVar_row (P:=Tryz.prog) W g 144 144 cs (0,0) _ hW Tryz.underlying144 rfl hi;simp only[asAddr,Sem.run_pure,Result.andThen_ok,h]
def bareV(x:M.Node):Value:= .tuple #[.agg #[.int .i64 (M.bareN x).op,.int .i64 (M.bareN x).n,.string (M.bareN x).text,.int .i64 (M.bareN x).num,.string (M.bareN x).path.seg,.int .i64 (M.bareN x).path.occ,.int .i64 (M.bareN x).path.fld,.int .i64 (M.bareN x).path.rep,.int .i64 (M.bareN x).path.comp,.int .i64 (M.bareN x).path.sub],.int .i64 (M.leastN x.op),.int .i64 (M.mostN x.op)]
theorem bare_other(op n:Int)(text:ByteArray)(num:Int)(seg:ByteArray)(occ fld rep comp sub:Int)(h:op<0\/23<op\/op=6\/op=9\/op=10):
 bareV ⟨op,n,text,num,⟨seg,occ,fld,rep,comp,sub⟩⟩= .tuple #[.agg #[.int .i64 op,.int .i64 n,.string ⟨#[]⟩,.int .i64 0,.string ⟨#[]⟩,.int .i64 0,.int .i64 0,.int .i64 0,.int .i64 0,.int .i64 0],.int .i64 0,.int .i64 0]:=by
 have k1:M.keepsText op=false:=by simp[M.keepsText];omega
 have k2:M.keepsNum op=false:=by simp[M.keepsNum];omega
 have k3:M.keepsPath op=false:=by simp[M.keepsPath];omega
 have k4:M.leastN op=0:=by unfold M.leastN M.isBin;rw[if_neg (by omega),if_neg (by omega),if_neg (by simp;omega)]
 have k5:M.mostN op=0:=by unfold M.mostN M.isBin;rw[if_neg (by omega),if_neg (by omega),if_neg (by omega),if_neg (by simp;omega)]
 simp[bareV,M.bareN,k1,k2,k3,k4,k5,M.path0];rfl
theorem bare_any(x:M.Node)(w:World):Calls Tryz.prog 253 #[.agg #[.int .i64 x.op,.int .i64 x.n,.string x.text,.int .i64 x.num,.string x.path.seg,.int .i64 x.path.occ,.int .i64 x.path.fld,.int .i64 x.path.rep,.int .i64 x.path.comp,.int .i64 x.path.sub]] w fun e w'=>e= .returned (bareV x)/\Below w.heap.size w w':=by
 obtain⟨op,n,text,num,⟨seg,occ,fld,rep,comp,sub⟩⟩:=x;have E0:=q_ (((Blk.new w 144 #[.int .i64 op,.int .i64 n,.string text,.int .i64 num,.string seg,.int .i64 occ,.int .i64 fld,.int .i64 rep,.int .i64 comp,.int .i64 sub]).alloc (.cells #[.int .i64 0,.int .i64 0,.string ⟨#[]⟩,.int .i64 0,.string ⟨#[]⟩,.int .i64 0,.int .i64 0,.int .i64 0,.int .i64 0,.int .i64 0] 144)).alloc (.cells #[.int .i64 0,.int .i64 0,.string ⟨#[]⟩,.int .i64 0,.string ⟨#[]⟩,.int .i64 0,.int .i64 0,.int .i64 0,.int .i64 0,.int .i64 0] 144));have E1:=q_ ((Blk.new (w.alloc (.cells #[.int .i64 op,.int .i64 n,.string text,.int .i64 num,.string seg,.int .i64 occ,.int .i64 fld,.int .i64 rep,.int .i64 comp,.int .i64 sub] 144)) 144 #[.int .i64 0,.int .i64 0,.string ⟨#[]⟩,.int .i64 0,.string ⟨#[]⟩,.int .i64 0,.int .i64 0,.int .i64 0,.int .i64 0,.int .i64 0]).alloc (.cells #[.int .i64 0,.int .i64 0,.string ⟨#[]⟩,.int .i64 0,.string ⟨#[]⟩,.int .i64 0,.int .i64 0,.int .i64 0,.int .i64 0,.int .i64 0] 144))
 have E2:=q_ (Blk.new ((w.alloc (.cells #[.int .i64 op,.int .i64 n,.string text,.int .i64 num,.string seg,.int .i64 occ,.int .i64 fld,.int .i64 rep,.int .i64 comp,.int .i64 sub] 144)).alloc (.cells #[.int .i64 0,.int .i64 0,.string ⟨#[]⟩,.int .i64 0,.string ⟨#[]⟩,.int .i64 0,.int .i64 0,.int .i64 0,.int .i64 0,.int .i64 0] 144)) 144 #[.int .i64 0,.int .i64 0,.string ⟨#[]⟩,.int .i64 0,.string ⟨#[]⟩,.int .i64 0,.int .i64 0,.int .i64 0,.int .i64 0,.int .i64 0]);have B2:=q_ ((((Below.refl w.heap.size w).alloc (n_) (.cells #[.int .i64 op,.int .i64 n,.string text,.int .i64 num,.string seg,.int .i64 occ,.int .i64 fld,.int .i64 rep,.int .i64 comp,.int .i64 sub] 144)).alloc (by simp) (.cells #[.int .i64 0,.int .i64 0,.string ⟨#[]⟩,.int .i64 0,.string ⟨#[]⟩,.int .i64 0,.int .i64 0,.int .i64 0,.int .i64 0,.int .i64 0] 144)).alloc (by simp;omega) (.cells #[.int .i64 0,.int .i64 0,.string ⟨#[]⟩,.int .i64 0,.string ⟨#[]⟩,.int .i64 0,.int .i64 0,.int .i64 0,.int .i64 0,.int .i64 0] 144));simp only[World.size_alloc] at E1 E2
 rcases(show op=0\/op=1\/op=2\/op=3\/op=4\/op=5\/op=6\/op=7\/op=8\/op=9\/op=10\/op=11\/op=12\/op=13\/op=14\/op=15\/op=16\/op=17\/op=18\/op=19\/op=20\/op=21\/op=22\/op=23\/op<0\/23<op by omega) with rfl|rfl|rfl|rfl|rfl|rfl|rfl|rfl|rfl|rfl|rfl|rfl|rfl|rfl|rfl|rfl|rfl|rfl|rfl|rfl|rfl|rfl|rfl|rfl|hno
 rotate_left 24
 ·have q0:∀k:Int,0<=k->k<=23->(op==k)=false:=fun k h1 h2=>by simp;omega
  have HO:=q_ (bare_other op n text num seg occ fld rep comp sub (by omega));have t0:=q0 0 (by decide) (by decide);have t1:=q0 1 (by decide) (by decide);have t2:=q0 2 (by decide) (by decide);have t3:=q0 3 (by decide) (by decide);have t4:=q0 4 (by decide) (by decide);have t5:=q0 5 (by decide) (by decide);have t7:=q0 7 (by decide) (by decide);have t8:=q0 8 (by decide) (by decide);have u1:=q0 11 (by decide) (by decide);have u2:=q0 12 (by decide) (by decide);have u3:=q0 13 (by decide) (by decide);have u4:=q0 14 (by decide) (by decide);have u5:=q0 15 (by decide) (by decide);have u6:=q0 16 (by decide) (by decide);have u7:=q0 17 (by decide) (by decide);have u8:=q0 18 (by decide) (by decide);have u9:=q0 19 (by decide) (by decide);have v0:=q0 20 (by decide) (by decide);have v1:=q0 21 (by decide) (by decide);have v2:=q0 22 (by decide) (by decide);have v3:=q0 23 (by decide) (by decide);clear q0 hno;rw[HO.o];go_enter Tryz.func253,Tryz.ntmps253
  go_wp2_with (first
   |(refine wpList_store_blk rfl _ _ _ (by rfl) (w.heap.size+1+1) (by rfl) (by rfl) E2.o (by rfl) (by kernel_rfl) (by simp[Value.oneCell']) ?_;intro w3 k3 g3;have K:=q_ k3;have F:=q_ (E1.o.grownAt g3 (by omega));have B:=q_ (below_gr B2.o g3 (by omega));have z0:=(E0.o.grownAt g3 (by omega)).cell;have z2:=k3.cell;clear k3 g3 E2)
   |(refine wpList_store_blk rfl _ _ _ (by rfl) (w.heap.size+1) (by rfl) (by rfl) F.o (by rfl) (by kernel_rfl) (by simp[Value.oneCell']) ?_;intro w5 k5 g5;have K5:=q_ k5;have B5:=q_ (below_gr B.o g5 (by omega));clear k5 g5))
  (try simp only[Exit.inBlock,Exit.then]);exact bodyPost_ret (bare_res K5.o rfl rfl rfl rfl) rfl ⟨rfl,B5.o⟩
 all_goals
  go_enter Tryz.func253,Tryz.ntmps253
  go_wp2_with (first
   |(refine wpList_store_blk rfl _ _ _ (by rfl) (w.heap.size+1+1) (by rfl) (by rfl) E2.o (by rfl) (by kernel_rfl) (by simp[Value.oneCell']) ?_;intro w3 k3 g3;have K:=q_ k3;have F:=q_ (E1.o.grownAt g3 (by omega));have B:=q_ (below_gr B2.o g3 (by omega));have z0:=(E0.o.grownAt g3 (by omega)).cell;have z2:=k3.cell;clear k3 g3 E2)
   |(refine wpList_store_part (cs':=#[.string seg,.int .i64 occ,.int .i64 fld,.int .i64 rep,.int .i64 comp,.int .i64 sub]) (cs2:=#[.int .i64 _,.int .i64 n,.string ⟨#[]⟩,.int .i64 0,.string seg,.int .i64 occ,.int .i64 fld,.int .i64 rep,.int .i64 comp,.int .i64 sub]) rfl _ _ _ (by rfl) (w.heap.size+1+1) 4 (by rfl) (by rfl) K.o (by simp) (by rfl) (by kernel_rfl) (by simp[Value.oneCell']) ?_;intro w4 k4 g4;have K:=q_ k4;have F:=q_ (F.o.grownAt g4 (by omega));have B:=q_ (below_gr B.o g4 (by omega));have y2:=k4.cell;clear k4 g4)
   |(refine wpList_store_one rfl _ _ _ (by rfl) (w.heap.size+1+1) 2 (.string text) (by rfl) (by rfl) K.o (by simp) (by kernel_rfl) rfl ?_;intro w4 k4 g4;have K:=q_ (show Blk w4 (w.heap.size+1+1) 144 #[.int .i64 _,.int .i64 n,.string text,.int .i64 0,.string ⟨#[]⟩,.int .i64 0,.int .i64 0,.int .i64 0,.int .i64 0,.int .i64 0] from k4);have F:=q_ (F.o.grownAt g4 (by omega));have B:=q_ (below_gr B.o g4 (by omega));have y2:=K.o.cell;clear k4 g4)
   |(refine wpList_store_one rfl _ _ _ (by rfl) (w.heap.size+1+1) 3 (.int .i64 num) (by rfl) (by rfl) K.o (by simp) (by kernel_rfl) rfl ?_;intro w4 k4 g4;have K:=q_ (show Blk w4 (w.heap.size+1+1) 144 #[.int .i64 _,.int .i64 n,.string ⟨#[]⟩,.int .i64 num,.string ⟨#[]⟩,.int .i64 0,.int .i64 0,.int .i64 0,.int .i64 0,.int .i64 0] from k4);have F:=q_ (F.o.grownAt g4 (by omega));have B:=q_ (below_gr B.o g4 (by omega));have y2:=K.o.cell;clear k4 g4)
   |(refine wpList_store_blk rfl _ _ _ (by rfl) (w.heap.size+1) (by rfl) (by rfl) F.o (by rfl) (by kernel_rfl) (by simp[Value.oneCell']) ?_;intro w5 k5 g5;have K5:=q_ k5;have B5:=q_ (below_gr B.o g5 (by omega));clear k5 g5))
  (try simp only[Exit.inBlock,Exit.then]);exact bodyPost_ret (bare_res K5.o rfl rfl rfl rfl) rfl ⟨rfl,B5.o⟩
end Go.Proofs.YtnocnbklhikmnaaGreatDoor
