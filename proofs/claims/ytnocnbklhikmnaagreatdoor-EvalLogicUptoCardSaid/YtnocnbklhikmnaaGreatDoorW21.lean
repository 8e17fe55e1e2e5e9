/- Part 21 of the proof. -/
import Derived.Test.YtnocnbklhikmnaaGreatDoorW12
import Derived.Test.YtnocnbklhikmnaaGreatDoorW14
import Derived.Test.YtnocnbklhikmnaaGreatDoorW16
import Derived.Test.YtnocnbklhikmnaaGreatDoorW20
set_option linter.unusedVariables false
set_option maxRecDepth 1000000
set_option maxHeartbeats 16000000
namespace Go.Proofs.YtnocnbklhikmnaaGreatDoor
open Go Go.RowKit Go.BigFrame
theorem node_held:Tryz.prog.stoodInHeld 144=false:=by kernel_rfl
theorem node_fields:∃g0 g1 g2 g3 g4:Field,Tryz.prog.underlying 144=some (.struct #[g0,g1,g2,g3,g4])/\(g0.type=3/\g0.offset=0/\(g0.name≠ "_"))/\(g1.type=3/\g1.offset=1/\(g1.name≠ "_"))/\(g2.type=9/\g2.offset=2/\(g2.name≠ "_"))/\(g3.type=3/\g3.offset=3/\(g3.name≠ "_"))/\(g4.type=135/\g4.offset=4/\(g4.name≠ "_")):=
 ⟨_,_,_,_,_,Tryz.underlying144,⟨rfl,rfl,by decide⟩,⟨rfl,rfl,by decide⟩,⟨rfl,rfl,by decide⟩,⟨rfl,rfl,by decide⟩,⟨rfl,rfl,by decide⟩⟩
def pathEq(p q:M.Path):Bool:=M.eqT p.seg q.seg&&decide (p.occ=q.occ/\p.fld=q.fld/\p.rep=q.rep/\p.comp=q.comp/\p.sub=q.sub)
def nodeEq(x y:M.Node):Bool:=decide (x.op=y.op/\x.n=y.n)&&M.eqT x.text y.text&&decide (x.num=y.num)&&pathEq x.path y.path
theorem pathEq_iff(p q:M.Path):pathEq p q=true<->p=q:=by
 obtain⟨s,o,a,b,c,d⟩:=p;obtain⟨s',o',a',b',c',d'⟩:=q;unfold pathEq;rw[Bool.and_eq_true,eqT_iff,decide_eq_true_iff];simp
theorem neq_node(x y:M.Node)(W:World):(binOp .neq 144 (.agg #[.int .i64 x.op,.int .i64 x.n,.string x.text,.int .i64 x.num,.string x.path.seg,.int .i64 x.path.occ,.int .i64 x.path.fld,.int .i64 x.path.rep,.int .i64 x.path.comp,.int .i64 x.path.sub]) (.agg #[.int .i64 y.op,.int .i64 y.n,.string y.text,.int .i64 y.num,.string y.path.seg,.int .i64 y.path.occ,.int .i64 y.path.fld,.int .i64 y.path.rep,.int .i64 y.path.comp,.int .i64 y.path.sub])).run Tryz.prog W= .ok (.bool (!nodeEq x y)) W:=by
 obtain⟨g0,g1,g2,g3,g4,hu,⟨t0,o0,n0⟩,⟨t1,o1,n1⟩,⟨t2,o2,n2⟩,⟨t3,o3,n3⟩,⟨t4,o4,n4⟩⟩:=node_fields;have hf:Tryz.prog.fieldsOf 144=#[g0,g1,g2,g3,g4]:=by simp[Program.fieldsOf,hu]
 obtain⟨op,n,text,num,⟨s,o,a,b,c,d⟩⟩:=x;obtain⟨op',n',text',num',⟨s',o',a',b',c',d'⟩⟩:=y;have hsz:Tryz.prog.cellsOf 135=6:=path_cells;rw[run_neq_struct,run_equalIn_struct W 9999 _ _ _ (by rw[hu,hf]) node_held,hf];have hq:=eqT_text text text';unfold nodeEq;by_cases h0:op=op';rotate_left
 ·simp[Op.eqFields,n0,t0,o0,go_sem,h0]
 by_cases h1:n=n';rotate_left
 ·simp[Op.eqFields,n0,n1,t0,t1,o0,o1,go_sem,h0,h1]
 cases hs:M.eqT text text'
 ·rw[hs] at hq
  simp[Op.eqFields,n0,n1,n2,t0,t1,t2,o0,o1,o2,go_sem,h0,h1,hq]
 rw[hs] at hq;by_cases h3:num=num';rotate_left
 ·simp[Op.eqFields,n0,n1,n2,n3,t0,t1,t2,t3,o0,o1,o2,o3,go_sem,hq,h0,h1,h3]
 cases hpe:pathEq ⟨s,o,a,b,c,d⟩ ⟨s',o',a',b',c',d'⟩
 ·simp[Op.eqFields,n0,n1,n2,n3,n4,t0,t1,t2,t3,t4,o0,o1,o2,o3,o4,go_sem,hq,h0,h1,h3]
  intro e0 e1 e2 e3 e4 e5;have e6:M.eqT s s'=true:=by rw[<-eqT_text];simp[e0]
  unfold pathEq at hpe;simp[e6,e1,e2,e3,e4,e5] at hpe
 ·obtain e:=(pathEq_iff _ _).1 hpe
  injection e with e0 e1 e2 e3 e4 e5;subst e0 e1 e2 e3 e4 e5;simp[Op.eqFields,n0,n1,n2,n3,n4,t0,t1,t2,t3,t4,o0,o1,o2,o3,o4,go_sem,hq,h0,h1,h3]
theorem nodeEq_iff(x y:M.Node):nodeEq x y=true<->x=y:=by
 obtain⟨op,n,text,num,p⟩:=x;obtain⟨op',n',text',num',p'⟩:=y;unfold nodeEq;rw[Bool.and_eq_true,Bool.and_eq_true,Bool.and_eq_true,eqT_iff,pathEq_iff,decide_eq_true_iff,decide_eq_true_iff];simp[and_assoc]
theorem nodeEq_bare(x:M.Node):nodeEq x (M.bareN x)=M.bareOk x:=by
 rw[Bool.eq_iff_iff,nodeEq_iff,M.bareOk_iff]
def rightK(x:M.Node):Bool:=if x.op=2 then M.pathOk x.path&&decide (0<x.path.fld)
 else if x.op=3\/x.op=11 then M.pathOk x.path
 else if x.op=4\/x.op=12\/x.op=23 then M.ruleName x.text
 else if x.op=5\/x.op=7 then decide (x.text.size<=4096)
 else if x.op=8 then decide (0<=x.num/\x.num<=2147483647)
 else true
theorem right_eq(x:M.Node):M.right x=(M.bareOk x&&decide (M.leastN x.op<=x.n)&&(decide (M.mostN x.op<0)||decide (x.n<=M.mostN x.op))&&rightK x):=rfl
theorem right_any(x:M.Node)(hx:x.ok64)(w:World):Calls Tryz.prog 223 #[.agg #[.int .i64 x.op,.int .i64 x.n,.string x.text,.int .i64 x.num,.string x.path.seg,.int .i64 x.path.occ,.int .i64 x.path.fld,.int .i64 x.path.rep,.int .i64 x.path.comp,.int .i64 x.path.sub]] w fun e w'=>e= .returned (.bool (M.right x))/\Below w.heap.size w w':=by
 obtain⟨w1,hw1⟩:∃w1,w1=w.alloc (.cells #[.int .i64 x.op,.int .i64 x.n,.string x.text,.int .i64 x.num,.string x.path.seg,.int .i64 x.path.occ,.int .i64 x.path.fld,.int .i64 x.path.rep,.int .i64 x.path.comp,.int .i64 x.path.sub] 144):=⟨_,rfl⟩
 have E1:=q_ (show Blk w1 w.heap.size 144 #[.int .i64 x.op,.int .i64 x.n,.string x.text,.int .i64 x.num,.string x.path.seg,.int .i64 x.path.occ,.int .i64 x.path.fld,.int .i64 x.path.rep,.int .i64 x.path.comp,.int .i64 x.path.sub] from hw1▸Blk.new w _ _);have B1:=q_ (show Below w.heap.size w w1 from hw1▸(Below.refl _ w).alloc (n_) _);have s1:w1.heap.size=w.heap.size+1:=by rw[hw1];simp
 have KB:=q_ (bare_any x w1);have KP:=q_ (fun(W:World)=>pathValid_any x.path W hx.2.2.2.2.1);have KN:=q_ (fun(W:World)=>ruleName_any x.text W hx.2.2.1);have HR:=q_ (right_eq x);have hts:x.text.size<=1048576:=hx.2.2.1;have te:=neq_node x (M.bareN x);rw[nodeEq_bare] at te;generalize hb0:M.bareOk x=b0 at*;generalize hy:M.bareN x=y at*;generalize hl0:M.leastN x.op=least at*;generalize hm0:M.mostN x.op=most at*
 have KB2:=q_ (show Calls Tryz.prog 253 #[.agg #[.int .i64 x.op,.int .i64 x.n,.string x.text,.int .i64 x.num,.string x.path.seg,.int .i64 x.path.occ,.int .i64 x.path.fld,.int .i64 x.path.rep,.int .i64 x.path.comp,.int .i64 x.path.sub]] w1 fun e w'=>e= .returned (.tuple #[.agg #[.int .i64 y.op,.int .i64 y.n,.string y.text,.int .i64 y.num,.string y.path.seg,.int .i64 y.path.occ,.int .i64 y.path.fld,.int .i64 y.path.rep,.int .i64 y.path.comp,.int .i64 y.path.sub],.int .i64 least,.int .i64 most])/\Below w1.heap.size w1 w' from by
  have:=KB.o;unfold bareV at this
  rwa [hl0,hm0,hy] at this)
 clear KB hb0 hy hl0 hm0 hx;have z1:=E1.o.cell;go_enter Tryz.func223,Tryz.ntmps223;go_wp2_with fail;rw[<-hw1];clear hw1;refine KB2.o.mono ?_;rintro e w2 ⟨rfl,hb⟩;have B2:=q_ (B1.o.trans (hb.mono (by omega)));have E2:=q_ ((E1.o.below hb (by omega)).alloc (.cells #[.int .i64 0,.int .i64 0,.string ⟨#[]⟩,.int .i64 0,.string ⟨#[]⟩,.int .i64 0,.int .i64 0,.int .i64 0,.int .i64 0,.int .i64 0] 144));have F2:=q_ (Blk.new w2 144 #[.int .i64 0,.int .i64 0,.string ⟨#[]⟩,.int .i64 0,.string ⟨#[]⟩,.int .i64 0,.int .i64 0,.int .i64 0,.int .i64 0,.int .i64 0]);have hs2:=hb.size;clear hb z1
 have HD:(b0=false)\/(b0=true/\x.n<least)\/(b0=true/\¬x.n<least/\0<=most/\most<x.n)\/(b0=true/\¬x.n<least/\¬0<=most)\/(b0=true/\¬x.n<least/\0<=most/\¬most<x.n):=by
  cases b0<;>simp<;>omega
 rcases HD with h|⟨h,h1⟩|⟨h,h1,h2,h3⟩|⟨h,h1,h2⟩|⟨h,h1,h2,h3⟩
 all_goals subst h
 rotate_left 3
 iterate 2
  have q1:decide (x.n<least)=false:=by simp;omega
  first|have q2:decide (0<=most)=false:=by simp;omega|have q2:decide (0<=most)=true:=by simp;omega
  try have q3:decide (most<x.n)=false:=by simp;omega
  have HK:=q_ (show M.right x=rightK x by rw[HR.o,decide_eq_true (p:=least<=x.n) (by omega)];first|(rw[decide_eq_true (p:=most<0) (by omega)];simp;done)|(rw[decide_eq_true (p:=x.n<=most) (by omega)];simp));clear HR h1 h2
  try clear h3
  have hop:x.op=2\/x.op=3\/x.op=11\/x.op=4\/x.op=12\/x.op=23\/x.op=5\/x.op=7\/(x.op=8/\0<=x.num)\/(x.op=8/\x.num<0)\/(x.op≠2/\x.op≠3/\x.op≠11/\x.op≠4/\x.op≠12/\x.op≠23/\x.op≠5/\x.op≠7/\x.op≠8):=by omega
  rcases hop with ho|ho|ho|ho|ho|ho|ho|ho|ho|ho|ho
  iterate 11
   first|have p2:(x.op==2)=true:=by simp;omega|have p2:(x.op==2)=false:=by simp;omega
   first|have p3:(x.op==3)=true:=by simp;omega|have p3:(x.op==3)=false:=by simp;omega
   first|have p11:(x.op==11)=true:=by simp;omega|have p11:(x.op==11)=false:=by simp;omega
   first|have p4:(x.op==4)=true:=by simp;omega|have p4:(x.op==4)=false:=by simp;omega
   first|have p12:(x.op==12)=true:=by simp;omega|have p12:(x.op==12)=false:=by simp;omega
   first|have p23:(x.op==23)=true:=by simp;omega|have p23:(x.op==23)=false:=by simp;omega
   first|have p5:(x.op==5)=true:=by simp;omega|have p5:(x.op==5)=false:=by simp;omega
   first|have p7:(x.op==7)=true:=by simp;omega|have p7:(x.op==7)=false:=by simp;omega
   first|have p8:(x.op==8)=true:=by simp;omega|have p8:(x.op==8)=false:=by simp;omega
   first|have r1:decide (0<=x.num)=true:=by simp;omega|have r1:decide (0<=x.num)=false:=by simp;omega|skip
   first
   |have HV:=q_ (show rightK x=(M.pathOk x.path&&decide (0<x.path.fld)) by unfold rightK;rw[if_pos (by omega)])
   |have HV:=q_ (show rightK x=M.pathOk x.path by unfold rightK;rw[if_neg (by omega),if_pos (by omega)])
   |have HV:=q_ (show rightK x=M.ruleName x.text by unfold rightK;rw[if_neg (by omega),if_neg (by omega),if_pos (by omega)])
   |have HV:=q_ (show rightK x=decide ((x.text.size:Int)<=4096) by unfold rightK;rw[if_neg (by omega),if_neg (by omega),if_neg (by omega),if_pos (by omega)];simp;omega)
   |have HV:=q_ (show rightK x=decide (x.num<=2147483647) by unfold rightK;rw[if_neg (by omega),if_neg (by omega),if_neg (by omega),if_neg (by omega),if_pos ho.1];simp;omega)
   |have HV:=q_ (show rightK x=false by unfold rightK;rw[if_neg (by omega),if_neg (by omega),if_neg (by omega),if_neg (by omega),if_pos ho.1];simp;omega)
   |have HV:=q_ (show rightK x=true by unfold rightK;rw[if_neg (by omega),if_neg (by omega),if_neg (by omega),if_neg (by omega),if_neg (by omega)])
   have HF:=q_ (HK.o.trans HV.o);clear ho;rotate_left
 iterate 3
  first|have q1:decide (x.n<least)=true:=by simp;omega|have q1:decide (x.n<least)=false:=by simp;omega|skip
  try have q2:decide (0<=most)=true:=by simp;omega
  try have q3:decide (most<x.n)=true:=by simp;omega
  have HF:=q_ (show M.right x=false by rw[HR.o];first|(simp;done)|(simp;omega)|(rw[decide_eq_false (p:=most<0) (by omega),decide_eq_false (p:=x.n<=most) (by omega)];simp));rotate_left
 all_goals
  go_wp2_with (refine wpList_store_blk (cs':=#[.int .i64 y.op,.int .i64 y.n,.string y.text,.int .i64 y.num,.string y.path.seg,.int .i64 y.path.occ,.int .i64 y.path.fld,.int .i64 y.path.rep,.int .i64 y.path.comp,.int .i64 y.path.sub]) rfl 144 (.tmp 3) (.tmp 9) rfl w2.heap.size (by rfl) (by rfl) F2.o rfl (by kernel_rfl) (by simp[Value.oneCell']) ?_;intro w3 k3 g3;have K3:=q_ k3;have E3:=q_ (E2.o.grownAt g3 (by omega));have B3:=q_ (below_gr (B2.o.alloc B2.o.size (.cells #[.int .i64 0,.int .i64 0,.string ⟨#[]⟩,.int .i64 0,.string ⟨#[]⟩,.int .i64 0,.int .i64 0,.int .i64 0,.int .i64 0,.int .i64 0] 144)) g3 (by have:=B2.o.size;omega));have z3:=E3.o.cell;have y3:=K3.o.cell;clear k3 g3)
  first
  |go_ret
   exact⟨by first|exact congrArg (fun b=>Ending.returned (.bool b)) HF.o.symm|(rw[HF.o];simp),B3.o⟩
  |refine(KN.o _).mono ?_
   rintro e w4 ⟨rfl,hb⟩;have B4:=q_ (B3.o.trans (hb.mono B3.o.size));clear hb;go_wp2;go_ret;exact⟨congrArg (fun b=>Ending.returned (.bool b)) HF.o.symm,B4.o⟩
  |refine(KP.o _).mono ?_
   rintro e w4 ⟨rfl,hb⟩;have B4:=q_ (B3.o.trans (hb.mono B3.o.size));have z4:=(E3.o.below hb E3.o.lt).cell;clear hb
   first
   |go_wp2
    go_ret;exact⟨congrArg (fun b=>Ending.returned (.bool b)) HF.o.symm,B4.o⟩
   |cases hv:M.pathOk x.path
    all_goals
     rw[hv] at HF;go_wp2;go_ret;exact⟨congrArg (fun b=>Ending.returned (.bool b)) HF.o.symm,B4.o⟩
def WholeP(w:World)(S:Nat->Prop)(o:Option (List M.Node))(e:Ending)(w':World):Prop:=
 Below w.heap.size w w'/\match o with
  |some r=>∃A c,e= .returned (.tuple #[.slice A r.length c,.bool true])/\SOk A r.length c/\LAt ENode w' S A r.length r
  |none=>e= .returned (.tuple #[.slice none 0 0,.bool false])
theorem node_open{w:World}{S:Nat->Prop}{A:Option Addr}{m:Nat}{x:M.Node}{r:List M.Node}(h:LAt ENode w S A m (x::r)):∃ad,A=some ad/\S ad.block/\x.ok64/\w.cell? ad=some (.int .i64 x.op)/\∀i u,x.cells[i+1]? =some u->w.cell? ⟨ad.block,ad.off+(i+1),none⟩=some u:=by
 have hm:=h.1;obtain⟨ad,y,cs,rfl,hb,hy,hr,hc⟩:=h.in_ (k:=0) (by rw[<-hm];simp);cases hy;obtain⟨rfl,hx⟩:=ENode.inv hr;refine⟨ad,rfl,hb,hx,?_,fun i u hu=> ?_⟩
 ·have:=hc 0 _ rfl
  rwa [Nat.zero_mul,Nat.add_zero,add_0] at this
 ·have:=hc (i+1) u hu
  rwa [Nat.zero_mul,Nat.zero_add,show(i+1)=0+(i+1) by omega,cell_add (i+1) (by omega),add_0] at this
theorem iter_step(f:Nat->List M.Node->Option (List M.Node))(k i:Nat)(n:List M.Node):M.iter f (k+1) i n=match f i n with
 |some n'=>M.iter f k (i+1) n'
 |none=>none:=rfl
theorem whole_any:∀(d:Nat) (l:List M.Node) (cls t:Int) (A:Option Addr) (c:Nat) (S:Nat->Prop) (w:World),t=20-(d:Int)->d<=20->(∀b,S b->b<w.heap.size)->SOk A l.length c->LAt ENode w S A l.length l->
 Calls Tryz.prog 130 #[.slice A l.length c,.int .i64 cls,.int .i64 t] w (WholeP w S (M.whole d l cls)):=by
 intro d
 induction d with
 |zero=>
  intro l cls t A c S w ht hd hS hok hl;have hq:decide ((20:Int)<=t)=true:=by simp;omega
  have hm:=hok.le;cases l with
  |nil=>
   clear hl hok hS ht;have HW:=q_ (show M.whole 0 [] cls=none from rfl);go_enter Tryz.func130,Tryz.ntmps130;go_wp2;go_ret2;rw[HW.o];exact⟨Below.refl _ _,rfl⟩
  |cons x r=>
   have HW:=q_ (show M.whole 0 (x::r) cls=none from rfl);simp only[List.length_cons] at*;have hm0:0<r.length+1:=by omega
   generalize r.length+1=m at*;have qm:((m:Int)==0)=false:=by simp;omega
   clear hl hok hS ht;go_enter Tryz.func130,Tryz.ntmps130;go_wp2;go_ret2;rw[HW.o];exact⟨Below.refl _ _,rfl⟩
 |succ d ih=>
  intro l cls t A c S w ht hd hS hok hl;have hm:=hok.le;have IH:=q_ ih;clear ih;have q20:decide ((20:Int)<=t)=false:=by simp;omega
  have ht0:0<=t:=by omega
  have ht1:t<20:=by omega
  have HT:=q_ (show t+1=20-(d:Int) by omega);clear ht;cases l with
  |nil=>
   clear hl hok hS;have HW:=q_ (show M.whole (d+1) [] cls=none from rfl);go_enter Tryz.func130,Tryz.ntmps130;go_wp2;go_ret2;rw[HW.o];exact⟨Below.refl _ _,rfl⟩
  |cons x r=>
   obtain⟨ad,rfl,hb,hx,e0,he⟩:=node_open hl;have HX:=q_ hx;have HE:=q_ he;have HW:=q_ (show M.whole (d+1) (x::r) cls=if M.classOf x.op=cls/\M.right x=true/\x.n<=r.length then M.iter (fun i n=>M.whole d n (M.wanted x i)) x.n.toNat 0 r else none from rfl);have HS:=q_ hS;have hd1:=hl.drop 1;rw[show 1*ENode.n=10 from rfl,List.drop_succ_cons,List.drop_zero] at hd1;have HD:=q_ hd1;simp only[List.length_cons] at hm hok⊢;have hcm:=hok.2.2.2;have hcap:=hok.2.1;have e1:=he 0 _ rfl;have e2:=he 1 _ rfl;have e3:=he 2 _ rfl;have e4:=he 3 _ rfl;have e5:=he 4 _ rfl;have e6:=he 5 _ rfl;have e7:=he 6 _ rfl;have e8:=he 7 _ rfl;have e9:=he 8 _ rfl;have hbw:=hS _ hb;have KC:=q_ (fun(W:World)=>classOf_any x.op W);have KR:=q_ (fun(W:World)=>right_any x HX.o W);have KW:=q_ (fun(W:World) (i:Nat)=>wanted_any x i W);have HC:=q_ (fun(W:World) (h:Below w.heap.size w W) (p:Addr) (hp:S p.block)=>h.cell (p:=p) (HS.o _ hp))
   have CF:=q_ (fun(W:World) (h:Below w.heap.size w W)=>show W.cell? ad=some (.int .i64 x.op)/\W.cell? ⟨ad.block,ad.off+1,none⟩=some (.int .i64 x.n)/\W.cell? ⟨ad.block,ad.off+2,none⟩=some (.string x.text)/\W.cell? ⟨ad.block,ad.off+3,none⟩=some (.int .i64 x.num)/\W.cell? ⟨ad.block,ad.off+4,none⟩=some (.string x.path.seg)/\W.cell? ⟨ad.block,ad.off+5,none⟩=some (.int .i64 x.path.occ)/\W.cell? ⟨ad.block,ad.off+6,none⟩=some (.int .i64 x.path.fld)/\W.cell? ⟨ad.block,ad.off+7,none⟩=some (.int .i64 x.path.rep)/\W.cell? ⟨ad.block,ad.off+8,none⟩=some (.int .i64 x.path.comp)/\W.cell? ⟨ad.block,ad.off+9,none⟩=some (.int .i64 x.path.sub) from
    ⟨(h.cell (p:=ad) (HS.o _ hb)).trans e0,(h.cell (p:=⟨ad.block,ad.off+(0+1),none⟩) (HS.o _ hb)).trans e1,(h.cell (p:=⟨ad.block,ad.off+(1+1),none⟩) (HS.o _ hb)).trans e2,(h.cell (p:=⟨ad.block,ad.off+(2+1),none⟩) (HS.o _ hb)).trans e3,(h.cell (p:=⟨ad.block,ad.off+(3+1),none⟩) (HS.o _ hb)).trans e4,(h.cell (p:=⟨ad.block,ad.off+(4+1),none⟩) (HS.o _ hb)).trans e5,(h.cell (p:=⟨ad.block,ad.off+(5+1),none⟩) (HS.o _ hb)).trans e6,(h.cell (p:=⟨ad.block,ad.off+(6+1),none⟩) (HS.o _ hb)).trans e7,(h.cell (p:=⟨ad.block,ad.off+(7+1),none⟩) (HS.o _ hb)).trans e8,(h.cell (p:=⟨ad.block,ad.off+(8+1),none⟩) (HS.o _ hb)).trans e9⟩)
   clear hl he hd1 hx hS;generalize hml:r.length=m at*;have qm:(((m+1:Nat):Int)==0)=false:=by simp;omega
   have qm':((m:Int)+1==0)=false:=by simp;omega
   go_enter Tryz.func130,Tryz.ntmps130;go_wp2_with fail;refine(KC.o _).mono ?_
   rintro e w2 ⟨rfl,hb2⟩;have B2:=q_ hb2;obtain⟨f0,f1,f2,f3,f4,f5,f6,f7,f8,f9⟩:=CF.o w2 B2.o;clear hb2;generalize hcl:M.classOf x.op=co at*;by_cases hce:co=cls
   ·have q1:(co !=cls)=false:=by simp[hce]
    have HC1:=q_ hce;clear hce hcl;go_wp2_with fail;refine(KR.o _).mono ?_
    rintro e w3 ⟨rfl,hb3⟩;have B3:=q_ (B2.o.trans (hb3.mono B2.o.size));obtain⟨f0,f1,f2,f3,f4,f5,f6,f7,f8,f9⟩:=CF.o w3 B3.o;clear hb3;cases hr:M.right x with
    |false=>
     have HF:=q_ (show M.whole (d+1) (x::r) cls=none by rw[HW.o,if_neg (fun h=>by rw[hr] at h;cases h.2.1)]);go_wp2;go_ret2;rw[HF.o];exact⟨B3.o,rfl⟩
    |true=>
     have E4:=q_ (Blk.new w3 144 #[.int .i64 0,.int .i64 0,.string ⟨#[]⟩,.int .i64 0,.string ⟨#[]⟩,.int .i64 0,.int .i64 0,.int .i64 0,.int .i64 0,.int .i64 0]);by_cases hn:x.n<=m
     ·have q2:decide ((m:Int)<x.n)=false:=by simp;omega
      have HF:=q_ (show M.whole (d+1) (x::r) cls=M.iter (fun i n=>M.whole d n (M.wanted x i)) x.n.toNat 0 r by rw[HW.o,if_pos ⟨HC1.o,hr,hn⟩]);by_cases hc1:c=1
      ·subst hc1
       obtain rfl:m=0:=by omega
       have q3:decide (0<x.n)=false:=by simp;omega
       have hr0:r=[]:=List.eq_nil_of_length_eq_zero hml;have HF2:=q_ (show M.whole (d+1) (x::r) cls=some [] by rw[HF.o,show x.n.toNat=0 by omega,hr0];rfl);go_wp2_with (refine wpList_store_blk (cs':=#[.int .i64 x.op,.int .i64 x.n,.string x.text,.int .i64 x.num,.string x.path.seg,.int .i64 x.path.occ,.int .i64 x.path.fld,.int .i64 x.path.rep,.int .i64 x.path.comp,.int .i64 x.path.sub]) rfl 144 (.tmp 8) (.tmp 36) rfl w3.heap.size (by rfl) (by rfl) E4.o rfl (by kernel_rfl) (by simp[Value.oneCell']) ?_;intro w5 k5 g5;have K5:=q_ k5;have B5:=q_ (below_gr (B3.o.alloc B3.o.size (.cells #[.int .i64 0,.int .i64 0,.string ⟨#[]⟩,.int .i64 0,.string ⟨#[]⟩,.int .i64 0,.int .i64 0,.int .i64 0,.int .i64 0,.int .i64 0] 144)) g5 B3.o.size);have y5:=K5.o.cell;clear k5 g5);go_loopw [0,46] (fun v y wr=>v= .slice (some ad) 0 0/\y= .int .i64 0/\Below w.heap.size w wr) (fun _ _ _=>0)
       case atStart=>exact⟨rfl,rfl,B5.o⟩
       case round=>
        obtain⟨rfl,rfl,hb⟩:=hrel;have HB:=q_ hb;clear hb;go_wp2;go_ret2;rw[HF2.o];exact⟨HB.o,_,_,rfl,⟨(fun _=>⟨rfl,rfl⟩),n_,by simp,by simp⟩,LAt.nil⟩
      ·have hc2:2<=c:=by omega
       have qc:decide (c=1)=false:=by simp[hc1]
       go_wp2_with (refine wpList_store_blk (cs':=#[.int .i64 x.op,.int .i64 x.n,.string x.text,.int .i64 x.num,.string x.path.seg,.int .i64 x.path.occ,.int .i64 x.path.fld,.int .i64 x.path.rep,.int .i64 x.path.comp,.int .i64 x.path.sub]) rfl 144 (.tmp 8) (.tmp 36) rfl w3.heap.size (by rfl) (by rfl) E4.o rfl (by kernel_rfl) (by simp[Value.oneCell']) ?_;intro w5 k5 g5;have K5:=q_ k5;have B5:=q_ (below_gr (B3.o.alloc B3.o.size (.cells #[.int .i64 0,.int .i64 0,.string ⟨#[]⟩,.int .i64 0,.string ⟨#[]⟩,.int .i64 0,.int .i64 0,.int .i64 0,.int .i64 0,.int .i64 0] 144)) g5 B3.o.size);have y5:=K5.o.cell;clear k5 g5)
       have HD5:=q_ (show LAt ENode w5 S (some ⟨ad.block,ad.off+10,none⟩) m r by
        have h:=HD.o.below_ B5.o HS.o
        rwa [show ad.add 10=⟨ad.block,ad.off+10,none⟩ from by rw[Addr.add,if_neg (by omega)],show(x::r).length-1=m by simp[hml]] at h)
       have S5:=q_ (show w3.heap.size<w5.heap.size from K5.o.lt);obtain⟨N,hN⟩:∃N,x.n.toNat=N:=⟨_,rfl⟩
       have HNX:=q_ (show∀k:Nat,k<N<->(k:Int)<x.n from fun k=>by omega);rw[hN] at HF;have hNb:N<=1048576:=by omega
       clear hN;have HI:=q_ (fun k i n=>iter_step (fun i n=>M.whole d n (M.wanted x i)) k i n);clear y5;subst hml;go_loopw [0,46] (fun v y wr=>∃(k:Nat) (A':Option Addr) (c':Nat) (q:List M.Node),k<=N/\y= .int .i64 k/\v= .slice A' q.length c'/\SOk A' q.length c'/\LAt ENode wr S A' q.length q/\M.iter (fun i n=>M.whole d n (M.wanted x i)) (N-k) k q=M.whole (d+1) (x::r) cls/\Blk wr w3.heap.size 144 #[.int .i64 x.op,.int .i64 x.n,.string x.text,.int .i64 x.num,.string x.path.seg,.int .i64 x.path.occ,.int .i64 x.path.fld,.int .i64 x.path.rep,.int .i64 x.path.comp,.int .i64 x.path.sub]/\Below w.heap.size w wr) (fun _ y _=>N-(intOf y).toNat)
       case atStart=>exact⟨0,_,_,r,by omega,rfl,rfl,⟨(fun h=>by cases h),by omega,by omega,by omega⟩,HD5.o,by rw[HF.o];rfl,K5.o,B5.o⟩
       case round=>
        obtain⟨k,A',c',q,hk,rfl,rfl,hok',hl',hit,hk5,hb⟩:=hrel;have OK:=q_ hok';have LT:=q_ hl';have IT:=q_ hit;have HK:=q_ hk5;have HB:=q_ hb;clear hok' hl' hit hk5 hb;by_cases hlt:k<N
        ·have q4:decide ((k:Int)<x.n)=true:=decide_eq_true ((HNX.o k).1 hlt)
         have y6:=HK.o.cell
         have IT2:=q_ (show(match M.whole d q (M.wanted x k) with|some n'=>M.iter (fun i n=>M.whole d n (M.wanted x i)) (N-(k+1)) (k+1) n'|none=>none)=M.whole (d+1) (x::r) cls by
          rw[<-IT.o,show N-k=(N-(k+1))+1 by omega,HI.o])
         go_wp2_with fail;refine(KW.o _ k).mono ?_
         rintro e w6 ⟨rfl,hb6⟩;have B6:=q_ (HB.o.trans (hb6.mono HB.o.size));have K6:=q_ (HK.o.below hb6 HK.o.lt);have L6:=q_ (LT.o.below_ hb6 (fun b hb=>Nat.lt_of_lt_of_le (HS.o b hb) HB.o.size));clear hb6 y6;go_wp2_with fail;refine(IH.o q (M.wanted x k) (t+1) A' c' S w6 HT.o (by omega) (fun b hb=>Nat.lt_of_lt_of_le (HS.o b hb) B6.o.size) OK.o L6.o).mono ?_
         rintro e w7 ⟨hb7,hr7⟩;have B7:=q_ (B6.o.trans (hb7.mono B6.o.size));have K7:=q_ (K6.o.below hb7 K6.o.lt);clear hb7;cases hw:M.whole d q (M.wanted x k) with
         |none=>
          rw[hw] at hr7;subst hr7;have I7:=q_ (show M.whole (d+1) (x::r) cls=none by rw[<-IT2.o,hw]);clear hw;go_wp2;go_ret2;rw[I7.o];exact⟨B7.o,rfl⟩
         |some q'=>
          rw[hw] at hr7;obtain⟨A7,c7,rfl,ok7,l7⟩:=hr7;have I7:=q_ (show M.iter (fun i n=>M.whole d n (M.wanted x i)) (N-(k+1)) (k+1) q'=M.whole (d+1) (x::r) cls by rw[<-IT2.o,hw]);have O7:=q_ ok7;have L7:=q_ l7;clear hw ok7 l7;go_wp2;go_roundw
          case rel=>exact⟨k+1,A7,c7,q',by omega,by go_num,rfl,O7.o,L7.o,I7.o,K7.o,B7.o⟩
          case measure=>simp[intOf];omega
        ·have q4:decide ((k:Int)<x.n)=false:=decide_eq_false (fun h=>hlt ((HNX.o k).2 h))
         have I7:=q_ (show M.whole (d+1) (x::r) cls=some q by rw[<-IT.o,show N-k=0 by omega];rfl);go_wp2;go_ret2;rw[I7.o];exact⟨HB.o,A',c',rfl,OK.o,LT.o⟩
     ·have q2:decide ((m:Int)<x.n)=true:=by simp;omega
      have HF:=q_ (show M.whole (d+1) (x::r) cls=none by rw[HW.o,if_neg (fun h=>hn h.2.2)]);go_wp2_with (refine wpList_store_blk (cs':=#[.int .i64 x.op,.int .i64 x.n,.string x.text,.int .i64 x.num,.string x.path.seg,.int .i64 x.path.occ,.int .i64 x.path.fld,.int .i64 x.path.rep,.int .i64 x.path.comp,.int .i64 x.path.sub]) rfl 144 (.tmp 8) (.tmp 36) rfl w3.heap.size (by rfl) (by rfl) E4.o rfl (by kernel_rfl) (by simp[Value.oneCell']) ?_;intro w5 k5 g5;have K5:=q_ k5;have B5:=q_ (below_gr (B3.o.alloc B3.o.size (.cells #[.int .i64 0,.int .i64 0,.string ⟨#[]⟩,.int .i64 0,.string ⟨#[]⟩,.int .i64 0,.int .i64 0,.int .i64 0,.int .i64 0,.int .i64 0] 144)) g5 B3.o.size);have y5:=K5.o.cell;clear k5 g5)
      all_goals go_ret2
      all_goals (rw[HF.o];exact⟨B5.o,rfl⟩)
   ·have q1:(co !=cls)=true:=by simp[hce]
    have HF:=q_ (show M.whole (d+1) (x::r) cls=none by rw[HW.o,if_neg (fun h=>hce h.1)]);go_wp2;go_ret2;rw[HF.o];exact⟨B2.o,rfl⟩
end Go.Proofs.YtnocnbklhikmnaaGreatDoor
