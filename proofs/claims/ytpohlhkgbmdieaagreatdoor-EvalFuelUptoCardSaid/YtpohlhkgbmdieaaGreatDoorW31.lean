/- EvalFuel: with as many steps as were used, and with more, the same comes of it; with one less there are too few. Conditions: the card's own (the second form: what is read is of bulk at most 1048576). -/
import Derived.Test.YtpohlhkgbmdieaaGreatDoorW30
import Derived.ProofKit
import Derived.OpenShut
import Derived.ShutString
import Derived.Test.YtpohlhkgbmdieaaGreatDoorCards
import Derived.LaidMore
import Derived.Lay
import Derived.SevenTiedAt
import Derived.Stop.Joined
import Derived.Deep.DeepHandedRow
import Derived.Lib.LaidTab
import Derived.Shelf.Vars
import Derived.Test.YtpohlhkgbmdieaaGreatDoorTie
set_option linter.unusedVariables false
set_option maxRecDepth 1000000
set_option maxHeartbeats 16000000
namespace Go.Proofs.YtpohlhkgbmdieaaGreatDoor
variable{F:Nat}{e:Ending}{m:M.dQ}{n:List M.Node}{now:ByteArray}{tables:List M.Table}{u:Nat}{w w':World}
section
open Go Go.RowKit Go.BigFrame
theorem gI(n:Nat):((n:Int) !=(n:Int))=false:=by simp
theorem l5(u1 u2:Value)(l:List ByteArray)(S1 S2:Nat->Prop)(w:World)(h1:cJ.R w S1 [u1] l)(h2:cJ.R w S2 [u2] l)(hS1:∀b,S1 b->b<w.heap.size)(Jg:∀b,S2 b->b<w.heap.size):
 Calls Tryz.prog 23 #[u1,u2] w fun e w'=>e= .returned (.bool true)/\Below w.heap.size w w':=by
 obtain⟨A1,c1,rfl,ee,dF⟩:=aU.av h1;obtain⟨A2,c2,rfl,oJ,hl2⟩:=aU.av h2;have hm:=ee.le;have H1:=q_ dF;have H2:=q_ hl2;have qL:=q_ hS1;have qK:=q_ Jg;have t0:=gI l.length;generalize l.length=m at*;clear h1 h2 ee oJ dF hl2 hS1 Jg;go_enter Tryz.func23,Tryz.ntmps23;go_wp2_with fail;go_loopw [5] (fun x wr=>∃k:Nat,k<=m/\x= .int .i64 k/\Below w.heap.size w wr) (fun x _=>m-(intOf x).toNat)
 case atStart=>exact⟨0,by omega,rfl,Below.refl _ _⟩
 case round=>
  obtain⟨k,hk,rfl,bS⟩:=hrel;have HB:=q_ bS;clear bS;by_cases hlt:k<m
  ·have q1:decide ((k:Int)<(m:Int))=true:=by simp;omega
   obtain⟨a1,s1,v1,rfl,hb1,hx1,hr1,hc1⟩:=(H1.o.below HB.o qL.o).in1 rfl hlt;obtain⟨a2,s2,v2,rfl,hb2,hx2,hr2,hc2⟩:=(H2.o.below HB.o qK.o).in1 rfl hlt;obtain rfl:s1=s2:=i_ (hx1.symm.trans hx2);obtain⟨rfl,-⟩:=bN.inv hr1;obtain⟨rfl,-⟩:=bN.inv hr2;have q2:(s1.toList==s1.toList)=true:=by simp
   clear hx1 hx2 hr1 hr2;go_wp2_with fail
   go_quiet (fail)
   go_wp2;go_roundw
   case rel=>exact⟨k+1,by omega,by go_num,below_drewN HB.o _⟩
   case measure=>simp[intOf];omega
  ·have q1:decide ((k:Int)<(m:Int))=false:=by simp;omega
   go_wp2;go_ret;exact⟨rfl,HB.o⟩
theorem uU(u1 u2:Value)(l:List (List (List ByteArray)))(S1 S2:Nat->Prop)(w:World)(h1:cG.R w S1 [u1] l)(h2:cG.R w S2 [u2] l)(hS1:∀b,S1 b->b<w.heap.size)(Jg:∀b,S2 b->b<w.heap.size):
 Calls Tryz.prog 79 #[u1,u2] w fun e w'=>e= .returned (.bool true)/\Below w.heap.size w w':=by
 obtain⟨A1,c1,rfl,ee,dF⟩:=aU.av h1;obtain⟨A2,c2,rfl,oJ,hl2⟩:=aU.av h2;have hm:=ee.le;have H1:=q_ dF;have H2:=q_ hl2;have qL:=q_ hS1;have qK:=q_ Jg;have t0:=gI l.length;generalize l.length=m at*;clear h1 h2 ee oJ dF hl2 hS1 Jg;go_enter Tryz.func79,Tryz.ntmps79;go_wp2_with fail;go_loopw [5] (fun x wr=>∃k:Nat,k<=m/\x= .int .i64 k/\Below w.heap.size w wr) (fun x _=>m-(intOf x).toNat)
 case atStart=>exact⟨0,by omega,rfl,Below.refl _ _⟩
 case round=>
  obtain⟨k,hk,rfl,bS⟩:=hrel;have HB:=q_ bS;clear bS;by_cases hlt:k<m
  ·have q1:decide ((k:Int)<(m:Int))=true:=by simp;omega
   obtain⟨a1,s1,v1,rfl,hb1,hx1,hr1,hc1⟩:=H1.o.in1 rfl hlt;obtain⟨a2,s2,v2,rfl,hb2,hx2,hr2,hc2⟩:=H2.o.in1 rfl hlt;obtain rfl:s1=s2:=i_ (hx1.symm.trans hx2);obtain⟨B1,d1,rfl,GC,r7⟩:=aU.av hr1;obtain⟨B2,d2,rfl,Ov,GD⟩:=aU.av hr2;have Al:=GC.le;have t2:=gI s1.length;have L1:=q_ r7;have L2:=q_ GD;have C1:=q_ (fun(W:World) (h:Below w.heap.size w W)=>(h.cell (p:=a1.add k) (by rw[az];exact qL.o _ hb1)).trans hc1);have C2:=q_ (fun(W:World) (h:Below w.heap.size w W)=>(h.cell (p:=a2.add k) (by rw[az];exact qK.o _ hb2)).trans hc2);have x1:=C1.o wr HB.o;have x2:=C2.o wr HB.o;clear hx1 hx2 hr1 hr2 GC Ov r7 GD hc1 hc2;generalize s1.length=m1 at*;go_wp2_with fail
   go_quiet (fail)
   go_wp2_with fail;clear x1 x2;go_loopw [6] (fun x w2=>∃q:Nat,q<=m1/\x= .int .i64 q/\Below w.heap.size w w2) (fun x _=>m1-(intOf x).toNat)
   case atStart=>exact⟨0,by omega,rfl,below_drewN HB.o _⟩
   case round=>
    obtain⟨q,hq,rfl,eZ⟩:=hrel;have j9:=q_ eZ;have x1:=C1.o _ eZ;have x2:=C2.o _ eZ;clear eZ;by_cases Ox:q<m1
    ·have q3:decide ((q:Int)<(m1:Int))=true:=by simp;omega
     obtain⟨a3,s3,v3,rfl,hb3,hx3,hr3,hc3⟩:=L1.o.in1 rfl Ox;obtain⟨a4,s4,v4,rfl,hb4,hx4,hr4,hc4⟩:=L2.o.in1 rfl Ox;obtain rfl:s3=s4:=i_ (hx3.symm.trans hx4);have D1:=q_ (fun(W:World) (h:Below w.heap.size w W)=>(h.cell (p:=a3.add q) (by rw[az];exact qL.o _ hb3)).trans hc3);have D2:=q_ (fun(W:World) (h:Below w.heap.size w W)=>(h.cell (p:=a4.add q) (by rw[az];exact qK.o _ hb4)).trans hc4);have KT:=q_ (fun(x:Ext wr)=>l5 v3 v4 s3 S1 S2 x.wd (aU.below hr3 (j9.o.trans (x.hb.mono j9.o.size)) qL.o) (aU.below hr4 (j9.o.trans (x.hb.mono j9.o.size)) qK.o) (fun b hb=>l_ (qL.o b hb) (t_ j9.o.size x.hb.size)) (fun b hb=>l_ (qK.o b hb) (t_ j9.o.size x.hb.size)));have z1:=fun(x:Ext wr)=>C1.o x.wd (j9.o.trans (x.hb.mono j9.o.size));have z2:=fun(x:Ext wr)=>C2.o x.wd (j9.o.trans (x.hb.mono j9.o.size));have z3:=fun(x:Ext wr)=>D1.o x.wd (j9.o.trans (x.hb.mono j9.o.size));have z4:=fun(x:Ext wr)=>D2.o x.wd (j9.o.trans (x.hb.mono j9.o.size));obtain⟨A3,n3,c3,rfl⟩:=bF hr3;obtain⟨A4,n4,c4,rfl⟩:=bF hr4
     clear hx3 hx4 hr3 hr4 hc3 hc4;go_wp2_with fail;refine eA (by kernel_rfl) (by kernel_rfl) ?_
     repeat(first|go_big_quiet_step ((go_at_call 23;exact Ext.calls _ (KT.o _)))|quiet_step ((go_at_call 23;exact Ext.calls _ (KT.o _))))
     refine wpQuiet_nil ?_;intro w4 cT;have B4:=q_ (j9.o.trans (cT.mono j9.o.size));clear cT z1 z2 z3 z4 x1 x2;go_wp2;go_roundw
     case rel=>exact⟨q+1,by omega,by go_num,B4.o⟩
     case measure=>simp[intOf];omega
    ·have q3:decide ((q:Int)<(m1:Int))=false:=by simp;omega
     go_wp2_with fail;go_roundw
     case rel=>exact⟨k+1,by omega,by go_num,j9.o⟩
     case measure=>simp[intOf];omega
  ·have q1:decide ((k:Int)<(m:Int))=false:=by simp;omega
   go_wp2;go_ret;exact⟨rfl,HB.o⟩
theorem GG(d:M.bR)(W:World):(binOp .neq 24 (.agg #[.int .u8 (d.f.toNat:Int),.int .u8 (d.c.toNat:Int),.int .u8 (d.r.toNat:Int),.int .u8 (d.e.toNat:Int),.int .u8 (d.s.toNat:Int)]) (.agg #[.int .u8 (d.f.toNat:Int),.int .u8 (d.c.toNat:Int),.int .u8 (d.r.toNat:Int),.int .u8 (d.e.toNat:Int),.int .u8 (d.s.toNat:Int)])).run Tryz.prog W= .ok (.bool false) W:=by
 obtain⟨g0,g1,g2,g3,g4,hu,⟨t0,o0,n0⟩,⟨t1,o1,n1⟩,⟨t2,o2,n2⟩,⟨t3,o3,n3⟩,⟨t4,o4,n4⟩⟩:=nT;have hf:Tryz.prog.fieldsOf 24=#[g0,g1,g2,g3,g4]:=by simp[Program.fieldsOf,hu]
 rw[run_neq_struct,run_equalIn_struct W 9999 _ _ _ (by rw[hu,hf]) r4,hf];simp[Op.eqFields,n0,n1,n2,n3,n4,t0,t1,t2,t3,t4,o0,o1,o2,o3,o4,go_sem]
theorem KX(d:M.bR)(A1 A2:Option Addr)(c1 c2:Nat)(l:List M.Seg)(S1 S2:Nat->Prop)(w:World)(hS1:∀b,S1 b->b<w.heap.size)(Jg:∀b,S2 b->b<w.heap.size)(hm:l.length<=1048576)(dF:bn aX w S1 A1 l.length l)(hl2:bn aX w S2 A2 l.length l):
 Calls Tryz.prog 22 #[.agg #[.int .u8 (d.f.toNat:Int),.int .u8 (d.c.toNat:Int),.int .u8 (d.r.toNat:Int),.int .u8 (d.e.toNat:Int),.int .u8 (d.s.toNat:Int),.slice A1 l.length c1],.agg #[.int .u8 (d.f.toNat:Int),.int .u8 (d.c.toNat:Int),.int .u8 (d.r.toNat:Int),.int .u8 (d.e.toNat:Int),.int .u8 (d.s.toNat:Int),.slice A2 l.length c2]] w fun e w'=>e= .returned (.bool true)/\Below w.heap.size w w':=by
 have H1:=q_ dF;have H2:=q_ hl2;have qL:=q_ hS1;have qK:=q_ Jg;have t0:=gI l.length;have tn:=GG d;generalize l.length=m at*;clear dF hl2 hS1 Jg;go_enter Tryz.func22,Tryz.ntmps22;go_wp2_with fail;obtain⟨w1,bu⟩:∃w1,w1=(w.alloc (.cells #[.int .u8 (d.f.toNat:Int),.int .u8 (d.c.toNat:Int),.int .u8 (d.r.toNat:Int),.int .u8 (d.e.toNat:Int),.int .u8 (d.s.toNat:Int),.slice A1 m c1] 27)).alloc (.cells #[.int .u8 (d.f.toNat:Int),.int .u8 (d.c.toNat:Int),.int .u8 (d.r.toNat:Int),.int .u8 (d.e.toNat:Int),.int .u8 (d.s.toNat:Int),.slice A2 m c2] 27):=⟨_,rfl⟩
 rw[<-bu];have E1:=q_ (show ar w1 w.heap.size 27 #[.int .u8 (d.f.toNat:Int),.int .u8 (d.c.toNat:Int),.int .u8 (d.r.toNat:Int),.int .u8 (d.e.toNat:Int),.int .u8 (d.s.toNat:Int),.slice A1 m c1] from bu▸(ar.new w _ _).alloc _)
 have E2:=q_ (show ar w1 (w.heap.size+1) 27 #[.int .u8 (d.f.toNat:Int),.int .u8 (d.c.toNat:Int),.int .u8 (d.r.toNat:Int),.int .u8 (d.e.toNat:Int),.int .u8 (d.s.toNat:Int),.slice A2 m c2] by
  have:=ar.new (w.alloc (.cells #[.int .u8 (d.f.toNat:Int),.int .u8 (d.c.toNat:Int),.int .u8 (d.r.toNat:Int),.int .u8 (d.e.toNat:Int),.int .u8 (d.s.toNat:Int),.slice A1 m c1] 27)) 27 #[.int .u8 (d.f.toNat:Int),.int .u8 (d.c.toNat:Int),.int .u8 (d.r.toNat:Int),.int .u8 (d.e.toNat:Int),.int .u8 (d.s.toNat:Int),.slice A2 m c2];rw[bu];simpa using this)
 have B1:=q_ (show Below w.heap.size w w1 from bu▸((Below.refl _ w).alloc (n_) _).alloc (by simp) _);have hz1:w.heap.size+2<=w1.heap.size:=by rw[bu];simp
 clear bu;go_loopw [5] (fun x wr=>∃k:Nat,k<=m/\x= .int .i64 k/\Below w1.heap.size w1 wr) (fun x _=>m-(intOf x).toNat)
 case atStart=>exact⟨0,by omega,rfl,Below.refl _ _⟩
 case round=>
  obtain⟨k,hk,rfl,bS⟩:=hrel;have HB:=q_ bS;have BW:=q_ (B1.o.trans (bS.mono B1.o.size));have e1:=(E1.o.below bS (by omega)).cell;have e2:=(E2.o.below bS (by omega)).cell;clear bS;by_cases hlt:k<m
  ·have q1:decide ((k:Int)<(m:Int))=true:=by simp;omega
   obtain⟨a1,s1,u1,v1,rfl,hb1,hx1,hr1,hc1,jf⟩:=H1.o.in2 rfl hlt;obtain⟨a2,s2,u2,v2,rfl,hb2,hx2,hr2,hc2,nU⟩:=H2.o.in2 rfl hlt;obtain rfl:s1=s2:=i_ (hx1.symm.trans hx2);obtain⟨F1,d1,e5,-,GC,r7⟩:=aX.inv hr1;obtain⟨F2,d2,e6,-,Ov,GD⟩:=aX.inv hr2;injection e5 with e5 e7;injection e7 with e7 _;injection e6 with e6 e8;injection e8 with e8 _;subst e5 e6 e7 e8;have C1:=q_ (fun(W:World) (h:Below w.heap.size w W)=>And.intro ((h.cell (p:=a1.add (k*2)) (by rw[az];exact qL.o _ hb1)).trans hc1) ((h.cell (p:=⟨(a1.add (k*2)).block,(a1.add (k*2)).off+1,none⟩) (by show(a1.add (k*2)).block<_;rw[az];exact qL.o _ hb1)).trans jf));have C2:=q_ (fun(W:World) (h:Below w.heap.size w W)=>And.intro ((h.cell (p:=a2.add (k*2)) (by rw[az];exact qK.o _ hb2)).trans hc2) ((h.cell (p:=⟨(a2.add (k*2)).block,(a2.add (k*2)).off+1,none⟩) (by show(a2.add (k*2)).block<_;rw[az];exact qK.o _ hb2)).trans nU));have L1:=q_ r7;have L2:=q_ GD;have Al:=GC.le;have q2:(s1.name.toList==s1.name.toList)=true:=by simp
   have t2:=gI s1.fields.length;obtain⟨x1,x2⟩:=C1.o _ BW.o;obtain⟨x3,x4⟩:=C2.o _ BW.o;clear hx1 hx2 hr1 hr2 hc1 hc2 jf nU GC Ov r7 GD;generalize s1.fields=fs at*;generalize fs.length=m1 at*;go_wp2_with fail
   go_quiet (fail)
   go_wp2_with fail;clear x1 x2 x3 x4;go_loopw [6] (fun x w2=>∃q:Nat,q<=m1/\x= .int .i64 q/\Below w1.heap.size w1 w2) (fun x _=>m1-(intOf x).toNat)
   case atStart=>exact⟨0,by omega,rfl,below_drewN HB.o _⟩
   case round=>
    obtain⟨q,hq,rfl,eZ⟩:=hrel;have j9:=q_ eZ;have Fy:=q_ (B1.o.trans (eZ.mono B1.o.size));have f1:=(E1.o.below eZ (by omega)).cell;have f2:=(E2.o.below eZ (by omega)).cell;obtain⟨x1,x2⟩:=C1.o _ Fy.o;obtain⟨x3,x4⟩:=C2.o _ Fy.o;clear eZ;by_cases Ox:q<m1
    ·have q3:decide ((q:Int)<(m1:Int))=true:=by simp;omega
     obtain⟨a3,s3,v3,rfl,hb3,hx3,hr3,hc3⟩:=L1.o.in1 rfl Ox;obtain⟨a4,s4,v4,rfl,hb4,hx4,hr4,hc4⟩:=L2.o.in1 rfl Ox;obtain rfl:s3=s4:=i_ (hx3.symm.trans hx4);have D1:=q_ (fun(W:World) (h:Below w.heap.size w W)=>(h.cell (p:=a3.add q) (by rw[az];exact qL.o _ hb3)).trans hc3);have D2:=q_ (fun(W:World) (h:Below w.heap.size w W)=>(h.cell (p:=a4.add q) (by rw[az];exact qK.o _ hb4)).trans hc4);have HX:=q_ (fun(x:Ext wr)=>Fy.o.trans (x.hb.mono Fy.o.size));have Jh:=q_ (fun(x:Ext wr)=>j9.o.trans (x.hb.mono j9.o.size));have KT:=q_ (fun(x:Ext wr)=>uU v3 v4 s3 S1 S2 x.wd (aU.below hr3 (HX.o x) qL.o) (aU.below hr4 (HX.o x) qK.o) (fun b hb=>l_ (qL.o b hb) (HX.o x).size) (fun b hb=>l_ (qK.o b hb) (HX.o x).size));have z1:=fun(x:Ext wr)=>C1.o x.wd (HX.o x);have z2:=fun(x:Ext wr)=>C2.o x.wd (HX.o x);have z3:=fun(x:Ext wr)=>D1.o x.wd (HX.o x);have z4:=fun(x:Ext wr)=>D2.o x.wd (HX.o x);have z5:=fun(x:Ext wr)=>(E1.o.below (Jh.o x) (by omega)).cell;have z6:=fun(x:Ext wr)=>(E2.o.below (Jh.o x) (by omega)).cell
     obtain⟨A3,n3,c3,rfl⟩:=bF hr3;obtain⟨A4,n4,c4,rfl⟩:=bF hr4;clear hx3 hx4 hr3 hr4 hc3 hc4;go_wp2_with fail;refine eA (by kernel_rfl) (by kernel_rfl) ?_
     repeat(first|go_big_quiet_step ((go_at_call 79;exact Ext.calls _ (KT.o _)))|quiet_step ((go_at_call 79;exact Ext.calls _ (KT.o _))))
     refine wpQuiet_nil ?_;intro w4 cT;have B4:=q_ (j9.o.trans (cT.mono j9.o.size));clear cT z1 z2 z3 z4 z5 z6 x1 x2 x3 x4;go_wp2;go_roundw
     case rel=>exact⟨q+1,by omega,by go_num,B4.o⟩
     case measure=>simp[intOf];omega
    ·have q3:decide ((q:Int)<(m1:Int))=false:=by simp;omega
     go_wp2_with fail;go_roundw
     case rel=>exact⟨k+1,by omega,by go_num,j9.o⟩
     case measure=>simp[intOf];omega
  ·have q1:decide ((k:Int)<(m:Int))=false:=by simp;omega
   go_wp2;go_ret;exact⟨rfl,BW.o⟩
theorem TA(k:Int)(s:ByteArray)(n:Int)(b:Bool)(W:World):(binOp .eql 33 (.agg #[.int .i64 k,.string s,.int .i64 n,.bool b]) (.agg #[.int .i64 k,.string s,.int .i64 n,.bool b])).run Tryz.prog W= .ok (.bool true) W:=by
 obtain⟨g0,g1,g2,g3,hu,⟨t0,o0,n0⟩,⟨t1,o1,n1⟩,⟨t2,o2,n2⟩,⟨t3,o3,n3⟩⟩:=uV;have hf:Tryz.prog.fieldsOf 33=#[g0,g1,g2,g3]:=by simp[Program.fieldsOf,hu]
 rw[run_eql_struct,run_equalIn_struct W 9999 _ _ _ (by rw[hu,hf]) De,hf];simp[Op.eqFields,n0,n1,n2,n3,t0,t1,t2,t3,o0,o1,o2,o3,go_sem]
def bq(d:M.bR)(v r:Value)(st:Bool)(x:M.Val)(used:Int):Array Value:=#[.int .u8 (d.f.toNat:Int),.int .u8 (d.c.toNat:Int),.int .u8 (d.r.toNat:Int),.int .u8 (d.e.toNat:Int),.int .u8 (d.s.toNat:Int),v,r,.bool st,.int .i64 x.kind,.string x.text,.int .i64 x.num,.bool x.truth,.int .i64 used]
theorem yi(d:M.bR)(u1 u2 v1 v2:Value)(l:List M.Seg)(rs:List ByteArray)(st:Bool)(x:M.Val)(used:Int)(S1 S2:Nat->Prop)(w:World)(hS1:∀b,S1 b->b<w.heap.size)(Jg:∀b,S2 b->b<w.heap.size)(h1:uO.R w S1 [u1] l)(h2:uO.R w S2 [u2] l)(h3:cJ.R w S1 [v1] rs)(h4:cJ.R w S2 [v2] rs):
 Calls Tryz.prog 8 #[.agg (bq d u1 v1 st x used),.agg (bq d u2 v2 st x used)] w fun e w'=>e= .returned (.bool true)/\Below w.heap.size w w':=by
 have KM:=q_ (fun(w':World) (hb:Below w.heap.size w w')=>(by
  obtain⟨A1,c1,rfl,ee,dF⟩:=aU.av (aU.below h1 hb hS1);obtain⟨A2,c2,rfl,oJ,hl2⟩:=aU.av (aU.below h2 hb Jg);exact KX d A1 A2 c1 c2 l S1 S2 w' (fun b h=>l_ (hS1 b h) hb.size) (fun b h=>l_ (Jg b h) hb.size) ee.le dF hl2:Calls Tryz.prog 22 #[.agg #[.int .u8 (d.f.toNat:Int),.int .u8 (d.c.toNat:Int),.int .u8 (d.r.toNat:Int),.int .u8 (d.e.toNat:Int),.int .u8 (d.s.toNat:Int),u1],.agg #[.int .u8 (d.f.toNat:Int),.int .u8 (d.c.toNat:Int),.int .u8 (d.r.toNat:Int),.int .u8 (d.e.toNat:Int),.int .u8 (d.s.toNat:Int),u2]] w' fun e w2=>e= .returned (.bool true)/\Below w'.heap.size w' w2))
 have KT:=q_ (fun(w':World) (hb:Below w.heap.size w w')=>l5 v1 v2 rs S1 S2 w' (aU.below h3 hb hS1) (aU.below h4 hb Jg) (fun b h=>l_ (hS1 b h) hb.size) (fun b h=>l_ (Jg b h) hb.size));obtain⟨A1,n1,c1,rfl⟩:=bF h1;obtain⟨A2,n2,c2,rfl⟩:=bF h2;obtain⟨A3,n3,c3,rfl⟩:=bF h3;obtain⟨A4,n4,c4,rfl⟩:=bF h4;clear h1 h2 h3 h4 hS1 Jg;have te:=TA x.kind x.text x.num x.truth;unfold bq;go_enter Tryz.func8,Tryz.ntmps8;go_wp2_with fail;obtain⟨w1,bu⟩:∃w1,w1=(w.alloc (.cells (bq d (.slice A1 n1 c1) (.slice A3 n3 c3) st x used) 35)).alloc (.cells (bq d (.slice A2 n2 c2) (.slice A4 n4 c4) st x used) 35):=⟨_,rfl⟩
 have E1:=q_ (show ar w1 w.heap.size 35 (bq d (.slice A1 n1 c1) (.slice A3 n3 c3) st x used) from bu▸(ar.new w _ _).alloc _)
 have E2:=q_ (show ar w1 (w.heap.size+1) 35 (bq d (.slice A2 n2 c2) (.slice A4 n4 c4) st x used) by
  have:=ar.new (w.alloc (.cells (bq d (.slice A1 n1 c1) (.slice A3 n3 c3) st x used) 35)) 35 (bq d (.slice A2 n2 c2) (.slice A4 n4 c4) st x used);rw[bu];simpa using this)
 have B1:=q_ (show Below w.heap.size w w1 from bu▸((Below.refl _ w).alloc (n_) _).alloc (by simp) _);have hz1:w.heap.size+2<=w1.heap.size:=by rw[bu];simp
 unfold bq at bu E1 E2;rw[<-bu];clear bu;refine(KM.o _ B1.o).mono ?_
 rintro _ w2 ⟨rfl,hb2⟩;have G1:=q_ (hb2.mono hz1);have z1:=(E1.o.below hb2 (by omega)).cell;have z2:=(E2.o.below hb2 (by omega)).cell;have KT2:=q_ (KT.o _ (B1.o.trans (hb2.mono B1.o.size)));clear hb2;go_wp2_with fail;refine KT2.o.mono ?_;rintro _ w3 ⟨rfl,hb3⟩;have hs2:=G1.o.size;have G2:=q_ (G1.o.trans (hb3.mono (by omega)));have z1:=(E1.o.below G2.o (by omega)).cell;have z2:=(E2.o.below G2.o (by omega)).cell;clear hb3;have q1:(used==used)=true:=by simp
 have q2:(st==st)=true:=by simp
 go_wp2_with fail;go_ret;exact⟨rfl,B1.o.trans (G2.o.mono (by omega))⟩
end
section
open Go Go.RowKit Go.BigFrame Go.Maps Go.WideMaps
namespace M
noncomputable def pd(n:List Node)(m:dQ)(tables:List Table)(now:ByteArray)(F:Nat):Except Int St×Nat:=cut F 0 (aQ ⟨tables,now⟩ 20 ⟨canon m,[],false,[]⟩ (iY n))
def qw(n:List Node)(m:dQ)(tables:List Table):Prop:=valid m=true/\Passes n (bV n) (aG tables)
def WQ:bR:=⟨0,0,0,0,0⟩
end M
theorem Vm{w:World}{S:Nat->Prop}{A:Option Addr}{ts:List M.Table}(h:bn cV w S A ts.length ts):∀t∈ts,∀e∈t.entries,e.2.size<=1048576:=by
 intro t ht e he;obtain⟨i,hi,rfl⟩:=List.getElem_of_mem ht;obtain⟨ad,x,cs,rfl,hb,hx,hr,hc⟩:=h.NY (k:=i) hi;rw[e_ hi] at hx;cases hx;obtain⟨A2,c2,-,-,-,h2⟩:=cV.inv hr;obtain⟨j,hj,rfl⟩:=List.getElem_of_mem he;obtain⟨ad,y,cs,rfl,hb,hy,hr,hc⟩:=h2.NY (k:=j) hj;rw[e_ hj] at hy;cases hy;exact(ld.inv hr).2.2
theorem Rw{w:World}{g:Nat}{S:Nat->Prop}{m:M.dQ}{tables:List M.Table}{now:ByteArray}{A:Option Addr}{c:Nat}{tA:Option Addr}{tc:Nat}(hg:g<w.heap.size)(hS:∀b,S b->b<w.heap.size/\b≠g)(tx:now.size<=1048576)(aI:bX A m.aH.length c)(hl:bn aX w S A m.aH.length m.aH)(tG:bX tA tables.length tc)(El:bn cV w S tA tables.length tables)(hmx:0<w.heap.size/\0≠g/\∃z,w.cell? ⟨0,0,none⟩=some (.int .i64 z)):
 b9 w g (fun b=>b=g) S ⟨tables,now⟩ ⟨m,[],false,[]⟩ (sI m.d (.slice A m.aH.length c) (.slice tA tables.length tc) now) []:=
 ⟨rfl,rfl,rfl,tx,⟨A,c,rfl,aI,hl⟩,⟨tA,tc,rfl,tG,El⟩,aD.nil (fun b h=>h.elim),aD.nil (fun b h=>h.elim),⟨rfl,fun i b s hb=>by simp at hb⟩,List.nodup_nil,fun b hb=>by simp at hb,fun b hb=>by simp[sI,Value.ownBlock] at hb,fun b hb=>by simp[sI,Value.ownBlock] at hb,rfl,hS,fun b hb=>by subst hb;exact hg,fun s hs=>by simp at hs,by simp,by simp,Vm El,hmx⟩
theorem Rx{w:World}{g pb nb:Nat}{S:Nat->Prop}{c:M.Cx}{st:M.St}{p:PV}{t:M.Tree}{F:Nat}{A:Option Addr}{cap:Nat}{N:Nat->Prop}{dests:List ByteArray}{cS:List (ByteArray×Int)}(h1:ar w pb 58 #[.pointer (some ⟨g,0,none⟩)])(h2:ar w nb 22 #[.slice A (M.flat t).length cap])(hT:M.jP 20 1 t=true)(bf:M.mh t)(cj:M.bh dests (aG c.tables) 20 [] t= .ok cS)(hp:b9 w g (fun b=>b=g) S c st p [])(hgb:ar w g 64 (p.cells F 0))(hF:F<=2000)(hN:∀b,N b->b<w.heap.size/\¬b=g)(hs0:st.scopes=[])(r6:st.routes=[])(aI:bX A (M.flat t).length cap)(hl:bn ENode w N A (M.flat t).length (M.flat t)):
 Calls Tryz.prog 19 #[.pointer (some ⟨pb,0,none⟩),.pointer (some ⟨nb,0,none⟩)] w (cD w g (fun b=>b=g) c F (M.cut F 0 (M.aQ c 20 st t))):=by
 have K:=q_ ((BI 20).1 t g _ S N c st p [] F 0 dests [] cS A cap w hT bf cj hp hgb hF (Nat.zero_le _) hN (by rw[hs0];simp) (by rw[r6];simp) aI hl);have z1:=h1.cell;have z2:=h2.cell;clear h1 h2 hT bf cj hp hgb hN hs0 r6 aI hl;generalize M.cut F 0 (M.aQ c 20 st t)=r at K⊢;go_enter Tryz.func19,Tryz.ntmps19;go_wp2_with fail;refine K.o.mono ?_;rintro e w2 he;have HE:=q_ he;obtain⟨r,k⟩:=r;cases r with
 |error er=>
  obtain⟨-,rfl,-⟩:=he.kJ;clear he z1 z2;unfold dt at*;go_wp2;exact⟨rfl,HE.o⟩
 |ok JR=>
  obtain⟨-,rfl,-⟩:=he.oV;clear he z1 z2;go_wp2;go_end0;exact HE.o
structure KI(W0:World)(m:M.dQ)(i:Nat)(L:Nat->Bool)(vs:Nat->Value)(w:World):Prop where
 below:Below W0.heap.size W0 w
 one:L i=true->∃A c,vs i= .agg #[.int .u8 (m.d.f.toNat:Int),.int .u8 (m.d.c.toNat:Int),.int .u8 (m.d.r.toNat:Int),.int .u8 (m.d.e.toNat:Int),.int .u8 (m.d.s.toNat:Int),.slice A m.aH.length c]/\bX A m.aH.length c/\bn aX w (New W0 w) A m.aH.length m.aH
section
variable {W0 w w':World} {m:M.dQ} {i:Nat} {L:Nat->Bool} {vs:Nat->Value}
theorem KI.start:KI W0 m i (fun _=>false) vs {W0 with drawn:=W0.drawn+1}:=⟨⟨rfl,rfl,rfl,n_,fun _ _=>rfl⟩,fun h=>by cases h⟩
theorem KI.pure(h:KI W0 m i L vs w){k:Nat}{x:Value}(hk:k≠i):KI W0 m i (upd L k) (aS vs k x) w:=by
 have e:upd L k i=L i:=by simp[upd,Ne.symm hk]
 have v:aS vs k x i=vs i:=by simp[aS,Ne.symm hk]
 exact⟨h.below,by rw[e,v];exact h.one⟩
theorem KI.give(h:KI W0 m i L vs w){A:Option Addr}{c:Nat}(hb:Below w.heap.size w w')(aI:bX A m.aH.length c)(hl:bn aX w' (New w w') A m.aH.length m.aH):KI W0 m i (upd L i) (aS vs i (.agg #[.int .u8 (m.d.f.toNat:Int),.int .u8 (m.d.c.toNat:Int),.int .u8 (m.d.r.toNat:Int),.int .u8 (m.d.e.toNat:Int),.int .u8 (m.d.s.toNat:Int),.slice A m.aH.length c])) w':=
 ⟨h.below.trans (hb.mono h.below.size),fun _=>⟨A,c,by simp[aS],aI,hl.wide (fun b hb2=>⟨t_ h.below.size hb2.1,hb2.2⟩)⟩⟩
end
def Ry(j:Nat)(k z:Int):Value:=if j=5 then .tuple #[.int .i64 k,.int .i64 z] else if j=6\/j=8 then .int .i64 k else .int .i64 z
structure LI(W0:World)(rs:List ByteArray)(ok:Prop)(L:Nat->Bool)(vs:Nat->Value)(w:World):Prop where
 below:Below W0.heap.size W0 w
 two:L 2=true->∃D dc,vs 2= .slice D rs.length dc/\bX D rs.length dc/\bn bN w (New W0 w) D rs.length rs
 four:L 4=true->∃k z,((ok/\k=0/\z=0)\/(¬ok/\k≠0))/\vs 4= .tuple #[.int .i64 k,.int .i64 z]/\∀j,5<=j->j<=9->L j=true->vs j=Ry j k z
 wait:∀j,5<=j->j<=9->L j=true->L 4=true
section
variable {W0 w w':World} {rs:List ByteArray} {ok:Prop} {L:Nat->Bool} {vs:Nat->Value}
theorem LI.start:LI W0 rs ok (fun _=>false) vs {W0 with drawn:=W0.drawn+1}:=⟨⟨rfl,rfl,rfl,n_,fun _ _=>rfl⟩,(fun h=>by cases h),(fun h=>by cases h),fun _ _ _ h=>by cases h⟩
theorem LI.pure(h:LI W0 rs ok L vs w){k:Nat}{x:Value}(h2:k<4)(h3:k≠2):LI W0 rs ok (upd L k) (aS vs k x) w:=by
 have e:∀j,j≠k->upd L k j=L j:=fun j hj=>by simp[upd,hj]
 have v:∀j,j≠k->aS vs k x j=vs j:=fun j hj=>by simp[aS,hj]
 refine⟨h.below,by rw[e 2 (by omega),v 2 (by omega)];exact h.two,?_,fun j hj py hl=>by rw[e j (by omega)] at hl;rw[e 4 (by omega)];exact h.wait j hj py hl⟩;rw[e 4 (by omega),v 4 (by omega)];intro hl;obtain⟨k',z,a1,a2,a3⟩:=h.four hl;exact⟨k',z,a1,a2,fun j hj py hl=>by rw[e j (by omega)] at hl;rw[v j (by omega)];exact a3 j hj py hl⟩
theorem LI.give(h:LI W0 rs ok L vs w){D:Option Addr}{dc:Nat}(hb:Below w.heap.size w w')(aI:bX D rs.length dc)(hl:bn bN w' (New w w') D rs.length rs):LI W0 rs ok (upd L 2) (aS vs 2 (.slice D rs.length dc)) w':=by
 have e:∀j,j≠2->upd L 2 j=L j:=fun j hj=>by simp[upd,hj]
 have v:∀j,j≠2->aS vs 2 (.slice D rs.length dc) j=vs j:=fun j hj=>by simp[aS,hj]
 refine⟨h.below.trans (hb.mono h.below.size),fun _=>⟨D,dc,by simp[aS],aI,hl.wide (fun b hb2=>⟨t_ h.below.size hb2.1,hb2.2⟩)⟩,?_,fun j hj py hl=>by rw[e j (by omega)] at hl;rw[e 4 (by omega)];exact h.wait j hj py hl⟩;rw[e 4 (by omega),v 4 (by omega)];intro hl;obtain⟨k',z,a1,a2,a3⟩:=h.four hl;exact⟨k',z,a1,a2,fun j hj py hl=>by rw[e j (by omega)] at hl;rw[v j (by omega)];exact a3 j hj py hl⟩
theorem LI.says(h:LI W0 rs ok L vs w){k z:Int}(h4:L 4=false)(hb:Below w.heap.size w w')(hv:(ok/\k=0/\z=0)\/(¬ok/\k≠0)):LI W0 rs ok (upd L 4) (aS vs 4 (.tuple #[.int .i64 k,.int .i64 z])) w':=by
 have e:∀j,j≠4->upd L 4 j=L j:=fun j hj=>by simp[upd,hj]
 have v:∀j,j≠4->aS vs 4 (.tuple #[.int .i64 k,.int .i64 z]) j=vs j:=fun j hj=>by simp[aS,hj]
 refine⟨h.below.trans (hb.mono h.below.size),?_,fun _=>⟨k,z,hv,by simp[aS],fun j hj py hl=> ?_⟩,fun j hj py hl=>by simp[upd]⟩
 ·rw[e 2 (by omega),v 2 (by omega)]
  intro hl;obtain⟨D,dc,a1,a2,a3⟩:=h.two hl;exact⟨D,dc,a1,a2,(a3.below hb (fun b hb2=>hb2.2)).wide (New.WC hb.size)⟩
 ·rw[e j (by omega)] at hl
  rw[h.wait j hj py hl] at h4;cases h4
theorem LI.part(h:LI W0 rs ok L vs w){j:Nat}{k z:Int}(hj:5<=j)(py:j<=9)(h4:L 4=true)(hv:vs 4= .tuple #[.int .i64 k,.int .i64 z]):LI W0 rs ok (upd L j) (aS vs j (Ry j k z)) w:=by
 have e:∀i,i≠j->upd L j i=L i:=fun i hi=>by simp[upd,hi]
 have v:∀i,i≠j->aS vs j (Ry j k z) i=vs i:=fun i hi=>by simp[aS,hi]
 refine⟨h.below,by rw[e 2 (by omega),v 2 (by omega)];exact h.two,?_,fun i _ _ _=>by rw[e 4 (by omega)];exact h4⟩;rw[e 4 (by omega),v 4 (by omega)];intro hl;obtain⟨k',z',a1,a2,a3⟩:=h.four hl;rw[hv] at a2;have e2:k'=k/\z'=z:=by simp at a2;exact⟨a2.1.symm,a2.2.symm⟩
 obtain⟨rfl,rfl⟩:=e2;refine⟨k',z',a1,hv,fun i hi Jt hl=> ?_⟩;by_cases GL:i=j
 ·subst GL;simp[aS]
 ·rw[e i GL] at hl;rw[v i GL];exact a3 i hi Jt hl
end
theorem uf{fn:Func}{p u:Tmp}(hf:fn.results=#[.cell p 35,.tmp u]){W:World}{tmps:Array Value}{g:Nat}{v3:Value}{cs:Array Value}(hW:ar W g 35 cs)(hl:cs.size=13)(h2:tmps.getD p undef= .pointer (some ⟨g,0,none⟩))(h3:tmps.getD u undef=v3):
 (results fn tmps).run Tryz.prog W= .ok (.tuple #[.agg cs,v3]) W:=by
 rw[jr hf,h2,h3];have hi:(Tryz.prog.info? 35).map (·.size)=some cs.size:=by rw[hl];kernel_rfl
 have h:=run_loadVar_row (P:=Tryz.prog) W g 35 35 cs (0,0) _ hW Tryz.underlying35 rfl hi;simp only[asAddr,Sem.run_pure,Result.andThen_ok,h]
def Iq(w:World)(n:List M.Node)(m:M.dQ)(tables:List M.Table)(now:ByteArray)(F:Nat)(e:Ending)(w':World):Prop:=
 Below w.heap.size w w'/\∃cs k,e= .returned (.tuple #[.agg cs,.int .i64 k])/\
  ((¬M.qw n m tables/\k≠0/\cs=bq M.WQ (.slice none 0 0) (.slice none 0 0) false M.cW 0)\/
   (M.qw n m tables/\∃er u,M.pd n m tables now F=(.error er,u)/\k=er/\cs=bq M.WQ (.slice none 0 0) (.slice none 0 0) false M.cW u)\/
   (M.qw n m tables/\∃st u v rv,M.pd n m tables now F=(.ok st,u)/\k=0/\cs=bq st.m.d v rv st.stopped M.cW u/\uO.R w' (New w w') [v] st.m.aH/\cJ.R w' (New w w') [rv] st.routes))
theorem JY{g:Nat}{p:PV}{q:Nat}{d:M.bR}{v rv:Value}{s:Bool}(h:ar w g 64 (p.cells F q))(hd:p.d=d)(hv:p.v=v)(hr:p.rv=rv)(hs:p.stop=s)(i:Nat):w.cell? ⟨g,i,none⟩=#[.int .u8 (d.f.toNat:Int),.int .u8 (d.c.toNat:Int),.int .u8 (d.r.toNat:Int),.int .u8 (d.e.toNat:Int),.int .u8 (d.s.toNat:Int),v,p.tv,.string p.now,.int .i64 (F:Nat),.int .i64 (q:Nat),rv,.bool s,p.sv][i]? :=by
 subst hd hv hr hs;exact h.cell i
def jJ:Array Value:=#[.int .u8 0,.int .u8 0,.int .u8 0,.int .u8 0,.int .u8 0,.slice none 0 0,.slice none 0 0,.bool false,.int .i64 0,.string ⟨#[]⟩,.int .i64 0,.bool false,.int .i64 0]
theorem Vn(n:List M.Node)(A:Option Addr)(c:Nat)(m:M.dQ)(mA:Option Addr)(mc:Nat)(tables:List M.Table)(tA:Option Addr)(tc:Nat)(now:ByteArray)(fuel:Int)(S:Nat->Prop)(w:World)(hS:∀b,S b->b<w.heap.size)(aI:bX A n.length c)(hl:bn ENode w S A n.length n)(EN:bX mA m.aH.length mc)(xk:bn aX w S mA m.aH.length m.aH)(tG:bX tA tables.length tc)(El:bn cV w S tA tables.length tables)(tx:now.size<=1048576)(hmx:0<w.heap.size/\∃z,w.cell? ⟨0,0,none⟩=some (.int .i64 z)):
 Calls Tryz.prog 7 #[.slice A n.length c,.agg #[.int .u8 (m.d.f.toNat:Int),.int .u8 (m.d.c.toNat:Int),.int .u8 (m.d.r.toNat:Int),.int .u8 (m.d.e.toNat:Int),.int .u8 (m.d.s.toNat:Int),.slice mA m.aH.length mc],.slice tA tables.length tc,.string now,.int .i64 fuel] w (Iq w n m tables now (M.df fuel)):=by
 have HS:=q_ hS;have OKN:=q_ aI;have Sy:=q_ hl;have OKM:=q_ EN;have Wu:=q_ xk;have OKT:=q_ tG;have HLT:=q_ El;have jcr:=q_ tx;have HMX:=q_ hmx;clear hS aI hl EN xk tG El tx hmx;have Tu:∀(fn:Fn) (first cap:Array Value) (w:World),(Instr.makeFunc fn first cap).run Tryz.prog w= .ok (.func fn first cap) w:=fun _ _ _ _=>rfl;obtain⟨w1,bu⟩:∃w1,w1=((w.alloc (.cells #[.slice A n.length c] 22)).alloc (.cells #[.int .u8 (m.d.f.toNat:Int),.int .u8 (m.d.c.toNat:Int),.int .u8 (m.d.r.toNat:Int),.int .u8 (m.d.e.toNat:Int),.int .u8 (m.d.s.toNat:Int),.slice mA m.aH.length mc] 27)).alloc (.cells jJ 35):=⟨_,rfl⟩
 have s1:(w.alloc (.cells #[.slice A n.length c] 22)).heap.size=w.heap.size+1:=by simp
 have s2:((w.alloc (.cells #[.slice A n.length c] 22)).alloc (.cells #[.int .u8 (m.d.f.toNat:Int),.int .u8 (m.d.c.toNat:Int),.int .u8 (m.d.r.toNat:Int),.int .u8 (m.d.e.toNat:Int),.int .u8 (m.d.s.toNat:Int),.slice mA m.aH.length mc] 27)).heap.size=w.heap.size+1+1:=by simp
 have NB1:=q_ (show ar w1 w.heap.size 22 #[.slice A n.length c] from bu▸((ar.new w _ _).alloc _).alloc _);have WR:=q_ (show ar w1 (w.heap.size+1) 27 #[.int .u8 (m.d.f.toNat:Int),.int .u8 (m.d.c.toNat:Int),.int .u8 (m.d.r.toNat:Int),.int .u8 (m.d.e.toNat:Int),.int .u8 (m.d.s.toNat:Int),.slice mA m.aH.length mc] from bu▸(s1▸ar.new _ _ _:ar _ (w.heap.size+1) _ _).alloc _);have OB1:=q_ (show ar w1 (w.heap.size+1+1) 35 jJ from bu▸s2▸ar.new _ _ _);have B1:=q_ (show Below w.heap.size w w1 from bu▸(((Below.refl _ w).alloc (n_) _).alloc (by omega) _).alloc (by omega) _);have tC:=bu.symm;unfold jJ at tC;clear bu s1 s2;go_enter Tryz.func7,Tryz.ntmps7;have zm:=WR.o.cell;go_wp2_with fail;clear tC zm;refine(uT m.d mA mc m.aH S w1 (fun b hb=>l_ (HS.o b hb) B1.o.size) OKM.o (Wu.o.below B1.o HS.o)).mono ?_
 rintro e w2 ⟨rfl,hb2⟩;have hv:M.valid ⟨m.d,m.aH⟩=M.valid m:=rfl;rw[hv];clear hv;have B2:=q_ (B1.o.trans (hb2.mono B1.o.size));have NB2:=q_ (NB1.o.below hb2 NB1.o.lt);have MB2:=q_ (WR.o.below hb2 WR.o.lt);have OB2:=q_ (OB1.o.below hb2 OB1.o.lt);have SZ2:=q_ (show w.heap.size+3<=w2.heap.size by have:=OB2.o.lt;omega);clear hb2 NB1 WR OB1 B1;cases hv:M.valid m with
 |false=>
  have NP:=q_ (show¬M.qw n m tables from fun h=>absurd (hv.symm.trans h.1) (by decide));clear hv;go_wp2_with (refine ah (cs':=jJ) rfl 35 (.tmp 10) (.tmp 19) rfl (w.heap.size+1+1) (by rfl) (by rfl) OB2.o rfl (by kernel_rfl) (by simp[jJ,Value.oneCell']) ?_;intro w3 k3 g3;have K3:=q_ k3;have G3:=q_ (ai B2.o g3 (by omega));clear k3 g3)
  (try simp only[Exit.inBlock,Exit.then]);exact bodyPost_ret (uf rfl K3.o rfl rfl rfl) rfl ⟨G3.o,jJ,51,rfl,.inl ⟨NP.o,by decide,rfl⟩⟩
 |true=>
  have HV:=q_ hv;clear hv;obtain⟨ok,lu⟩:∃ok:Prop,ok=M.Passes n (M.bV n) (aG tables):=⟨_,rfl⟩
  have KK:=q_ lu;clear lu
  have HX:=q_ (fun(W:World) (h:Below w2.heap.size w2 W)=>show(∀b,S b->b<W.heap.size)/\bn ENode W S A n.length n/\bn cV W S tA tables.length tables/\bn aX W S mA m.aH.length m.aH from
   have h2:=B2.o.trans (h.mono B2.o.size)
   ⟨fun b hb=>l_ (HS.o b hb) h2.size,Sy.o.below h2 HS.o,HLT.o.below h2 HS.o,Wu.o.below h2 HS.o⟩)
  go_wp2_with fail;refine ak (KP:=fun _ _=>False) 10 [2,4,5,6,7,8,9] (LI w2 (M.bV n) ok) (by kernel_rfl) (by kernel_rfl) LI.start (fun ch a2 w5 hd hk=>hk.elim) ?_
  iterate 2
   apply ae rfl
   ·intro L vs wx hI hR hL K hK
    have c0:=fun i=>(NB2.o.below hI.below NB2.o.lt).cell i;go_simp;exact hK _ (hI.pure (by decide) (by decide))
   intro KK af;go_simp;refine af _ ?_;clear af KK
  refine bc rfl ?_ ?_
  ·intro L vs wx hI hR hL K hK
   go_simp;exact(Ip n A c S wx (HX.o wx hI.below).1 OKN.o (HX.o wx hI.below).2.1).mono fun e w' ⟨h1,D,dc,h2,h3,h4⟩=>⟨_,h2,hK _ _ (hI.give h1 h3 h4)⟩
  intro YR af;go_simp;refine af _ ?_;clear af YR;apply ae rfl
  ·intro L vs wx hI hR hL K hK
   go_simp;exact hK _ (hI.pure (by decide) (by decide))
  intro KK af;go_simp;refine af _ ?_;clear af KK;refine bc rfl ?_ ?_
  ·intro L vs wx hI hR hL K hK
   obtain⟨D,dc,e2,jf,nU⟩:=hI.two (hR 2 (by kernel_rfl));go_simp
   exact(rF n A c (M.bV n) D dc tables tA tc (fun b=>S b\/New w2 wx b) wx (fun b hb=>hb.elim ((HX.o wx hI.below).1 b) (fun h=>h.2)) OKN.o ((HX.o wx hI.below).2.1.wide (fun b hb=> .inl hb)) jf (nU.wide (fun b hb=> .inr hb)) OKT.o ((HX.o wx hI.below).2.2.1.wide (fun b hb=> .inl hb))).mono fun e w' ⟨h1,h2⟩=>by
    rw[<-KK.o] at h2;rcases h2 with⟨h3,rfl⟩|⟨h3,k,z,h4,rfl⟩
    ·exact⟨_,rfl,hK _ _ (hI.says hL h1 (.inl ⟨h3,rfl,rfl⟩))⟩
    ·exact⟨_,rfl,hK _ _ (hI.says hL h1 (.inr ⟨h3,h4⟩))⟩
  intro YR af;go_simp;refine af _ ?_;clear af YR;refine bc rfl ?_ ?_
  ·intro L vs wx hI hR hL K hK
   obtain⟨k,z,-,e4,-⟩:=hI.four (hR 4 (by kernel_rfl));go_simp;exact hK _ _ (hI.part (j:=5) (by decide) (by decide) (hR 4 (by kernel_rfl)) e4)
  intro KK af;go_simp;refine af _ ?_;clear af KK;refine bc rfl ?_ ?_
  ·intro L vs wx hI hR hL K hK
   obtain⟨k,z,-,e4,hp⟩:=hI.four (hI.wait 5 (by decide) (by decide) (hR 5 (by kernel_rfl)));have e5:vs 5= .tuple #[.int .i64 k,.int .i64 z]:=hp 5 (by decide) (by decide) (hR 5 (by kernel_rfl));go_simp;exact hK _ _ (hI.part (j:=6) (by decide) (by decide) (hI.wait 5 (by decide) (by decide) (hR 5 (by kernel_rfl))) e4)
  intro KK af;go_simp;refine af _ ?_;clear af KK;refine bc rfl ?_ ?_
  ·intro L vs wx hI hR hL K hK
   obtain⟨k,z,-,e4,hp⟩:=hI.four (hI.wait 5 (by decide) (by decide) (hR 5 (by kernel_rfl)));have e5:vs 5= .tuple #[.int .i64 k,.int .i64 z]:=hp 5 (by decide) (by decide) (hR 5 (by kernel_rfl));go_simp;exact hK _ _ (hI.part (j:=7) (by decide) (by decide) (hI.wait 5 (by decide) (by decide) (hR 5 (by kernel_rfl))) e4)
  intro KK af;go_simp;refine af _ ?_;clear af KK;refine bc rfl ?_ ?_
  ·intro L vs wx hI hR hL K hK
   obtain⟨k,z,-,e4,hp⟩:=hI.four (hI.wait 6 (by decide) (by decide) (hR 6 (by kernel_rfl)));have e5:vs 6= .int .i64 k:=hp 6 (by decide) (by decide) (hR 6 (by kernel_rfl));go_simp;exact hK _ _ (hI.part (j:=8) (by decide) (by decide) (hI.wait 6 (by decide) (by decide) (hR 6 (by kernel_rfl))) e4)
  intro KK af;go_simp;refine af _ ?_;clear af KK;refine bc rfl ?_ ?_
  ·intro L vs wx hI hR hL K hK
   obtain⟨k,z,-,e4,hp⟩:=hI.four (hI.wait 7 (by decide) (by decide) (hR 7 (by kernel_rfl)));have e5:vs 7= .int .i64 z:=hp 7 (by decide) (by decide) (hR 7 (by kernel_rfl));go_simp;exact hK _ _ (hI.part (j:=9) (by decide) (by decide) (hI.wait 7 (by decide) (by decide) (hR 7 (by kernel_rfl))) e4)
  intro KK af;go_simp;refine af _ ?_;clear af KK;refine aw ?_;intro vs w3 hI;have B23:=q_ hI.below;obtain⟨k,z,H4,e4,hp⟩:=hI.four (by decide);have e5:vs 5= .tuple #[.int .i64 k,.int .i64 z]:=hp 5 (by decide) (by decide) (by decide);have e6:vs 6= .int .i64 k:=hp 6 (by decide) (by decide) (by decide);have e7:vs 7= .int .i64 z:=hp 7 (by decide) (by decide) (by decide);have e8:vs 8= .int .i64 k:=hp 8 (by decide) (by decide) (by decide);have e9:vs 9= .int .i64 z:=hp 9 (by decide) (by decide) (by decide);clear hI hp;intro YR af;have kg:=fun a w h=>af .normal a w h;simp only[List.drop_succ_cons,List.drop_nil];rw[e4,e5,e6,e7,e8,e9];clear e4 e5 e6 e7 e8 e9;have B3:=q_ (B2.o.trans (B23.o.mono B2.o.size));have NB3:=q_ (NB2.o.below B23.o NB2.o.lt);have Vk:=q_ (MB2.o.below B23.o MB2.o.lt);have OB3:=q_ (OB2.o.below B23.o OB2.o.lt);have SZ3:=q_ (t_ SZ2.o B23.o.size);rcases H4 with⟨aI,rfl,rfl⟩|⟨hno,hk⟩
  rotate_left
  ·have NP:=q_ (show¬M.qw n m tables from fun h=>hno (by rw[KK.o];exact h.2))
   have HK:=q_ hk;have q1:(k==0)=false:=by simp[hk]
   clear hno hk;go_wp2_with (refine ah (cs':=jJ) rfl 35 (.tmp 10) (.tmp 30) rfl (w.heap.size+1+1) (by rfl) (by rfl) OB3.o rfl (by kernel_rfl) (by simp[jJ,Value.oneCell']) ?_;intro w4 k4 g4;have K4:=q_ k4;have G4:=q_ (ai B3.o g4 (by omega));clear k4 g4)
   (try simp only[Exit.inBlock,Exit.then]);exact bodyPost_ret (uf rfl K4.o rfl rfl rfl) rfl ⟨G4.o,jJ,k,rfl,.inl ⟨NP.o,HK.o,rfl⟩⟩
  have HPL:=q_ (show M.qw n m tables from⟨HV.o,by rw[<-KK.o];exact aI⟩);clear aI;have zm:=Vk.o.cell;go_wp2_with fail;clear zm;have HX3:=q_ (show(∀b,S b->b<w3.heap.size)/\bn ENode w3 S A n.length n/\bn cV w3 S tA tables.length tables/\bn aX w3 S mA m.aH.length m.aH from HX.o w3 B23.o);refine(xP m.d mA mc m.aH S (.slice tA tables.length tc) now fuel w3 OKM.o HX3.o.2.2.2 HX3.o.1 ⟨_,_,_,rfl⟩).mono ?_
  rintro e w4 ⟨hb4,g,A2,c2,rfl,hg4,hk4,KU,hl4⟩;have hcm:M.canon ⟨m.d,m.aH⟩=M.canon m:=rfl;rw[hcm] at hk4 KU hl4;clear hcm;have B34:=q_ hb4;have G4:=q_ hk4;have GE:=q_ hg4;have OK4:=q_ KU;have L4:=q_ hl4;have B4:=q_ (B3.o.trans (hb4.mono B3.o.size));have NB4:=q_ (NB3.o.below hb4 NB3.o.lt);have OB4:=q_ (OB3.o.below hb4 OB3.o.lt);have NH:=q_ (ar.new w4 58 #[.pointer none]);have B5:=q_ ((Below.refl _ w4).alloc (n_) (.cells #[.pointer none] 58));clear hb4 hg4 hk4 KU hl4
  go_wp2_with (first
   |(refine bH rfl 58 (.tmp 14) (.tmp 36) rfl w4.heap.size 0 (.pointer (some ⟨g,0,none⟩)) _ (by rfl) (by rfl) (NH.o.cell 0) (NH.o.frozen 0) (by kernel_rfl) (by rfl) ?_;intro w6 hw6
     have g6:(w4.alloc (.cells #[.pointer none] 58)).grownBy w6 (some w4.heap.size):=hw6▸aV _ w4.heap.size 0 _;have PB6:=q_ (show ar w6 w4.heap.size 58 #[.pointer (some ⟨g,0,none⟩)] from hw6▸NH.o.one_set _);have B46:=q_ (ai B5.o g6 (n_));clear hw6 g6 NH B5)
   |fail)
  have Xq:=G4.o.lt;have B6:=q_ (B4.o.trans (B46.o.mono B4.o.size));have NB6:=q_ (NB4.o.below B46.o NB4.o.lt);have OB6:=q_ (OB4.o.below B46.o OB4.o.lt);have G6:=q_ (G4.o.below B46.o G4.o.lt);have HG:=q_ (show w.heap.size+3<=g/\g<w4.heap.size from⟨t_ SZ3.o GE.o,Xq⟩);have S6:=q_ (show w4.heap.size<w6.heap.size from PB6.o.lt);have HS6:=q_ (show∀b,(S b\/(New w3 w4 b/\b≠g))->b<w6.heap.size/\b≠g from fun b hb=>hb.elim (fun h=>⟨by have:=HS.o b h;have:=B6.o.size;omega,by have:=HS.o b h;have:=HG.o.1;omega⟩) (fun h=>⟨by have:=h.1.2;have:=S6.o;omega,h.2⟩))
  have PI6:=q_ (show b9 w6 g (fun b=>b=g) (fun b=>S b\/(New w3 w4 b/\b≠g)) ⟨tables,now⟩ ⟨M.canon m,[],false,[]⟩ (sI (M.canon m).d (.slice A2 (M.canon m).aH.length c2) (.slice tA tables.length tc) now) [] from
   Rw G6.o.lt HS6.o jcr.o OK4.o ((L4.o.below B46.o (fun b h=>h.1.2)).wide (fun b hb=> .inr hb)) OKT.o ((HLT.o.below B6.o HS.o).wide (fun b hb=> .inl hb)) ⟨l_ HMX.o.1 B6.o.size,by have:=HMX.o.1;have:=HG.o.1;omega,by obtain⟨z,hz⟩:=HMX.o.2;exact⟨z,(B6.o.cell (p:=⟨0,0,none⟩) HMX.o.1).trans hz⟩⟩)
  obtain⟨jbk,cS,cj⟩:=HPL.o.2;have D5:=M.yV jbk;have Vo:=q_ (show M.pd n m tables now (M.df fuel)=M.cut (M.df fuel) 0 (M.aQ ⟨tables,now⟩ 20 ⟨M.canon m,[],false,[]⟩ (M.iY n)) from rfl);generalize M.iY n=t at D5 cj Vo;obtain⟨hn,bf,hT,hlen⟩:=D5;subst hn;have HT:=q_ (And.intro hT (And.intro bf cj));clear hT bf cj hlen jbk;have HF2:=q_ (show M.df fuel<=2000 by unfold M.df;omega);generalize hFE:M.df fuel=F at G6 Vo HF2;have HFE:=q_ hFE;clear hFE;clear G4;obtain⟨Q,hQ⟩:∃Q:Int->World->Prop,Q=fun k W=>∃r,M.pd (M.flat t) m tables now F=r/\((∃er u,r=(.error er,u)/\k=er/\∃p',ar W g 64 (PV.cells p' F u))\/(∃st u,r=(.ok st,u)/\k=0/\∃(ml S':Nat->Prop) (p':PV) (JS:List Nat),b9 W g ml S' ⟨tables,now⟩ st p' JS/\ar W g 64 (PV.cells p' F u)/\∀b,b<w6.heap.size->ml b->b=g)):=⟨_,rfl⟩
  have HQ:=q_ hQ;clear hQ
  have Ws:=q_ (fun(W:World) (hW:Below w6.heap.size w6 W)=>show Calls Tryz.prog 19 #[.pointer (some ⟨w4.heap.size,0,none⟩),.pointer (some ⟨w.heap.size,0,none⟩)] W fun e w'=>ax (fun b=>b=g) W w'/\∃k,Q k w'/\((k=0/\e= .returned (.tuple #[]))\/(k≠0/\e=dt k)) from by
   refine(Rx (N:=S) (c:=⟨tables,now⟩) (PB6.o.below hW PB6.o.lt) (NB6.o.below hW NB6.o.lt) HT.o.1 HT.o.2.1 HT.o.2.2 (PI6.o.below hW) (G6.o.below hW G6.o.lt) HF2.o (fun b hb=>⟨by have:=HS.o b hb;have:=B6.o.size;have:=hW.size;omega,by have:=HS.o b hb;have:=HG.o.1;omega⟩) rfl rfl OKN.o (Sy.o.below (B6.o.trans (hW.mono B6.o.size)) HS.o)).mono ?_
   intro e w' he;rw[HQ.o];cases hr:M.cut F 0 (M.aQ ⟨tables,now⟩ 20 ⟨M.canon m,[],false,[]⟩ t) with
   |mk r u=>
   rw[hr] at he;have hrun:=Vo.o.trans hr;cases r with
   |error er=>
    obtain⟨h1,h2,p',h3⟩:=he.kJ;exact⟨h1,er,⟨_,hrun,.inl ⟨er,u,rfl,rfl,p',h3⟩⟩,.inr ⟨M.wK hr,h2⟩⟩
   |ok JR=>
    obtain⟨h1,h2,ml,S',p',JS,h3,h4,h5⟩:=he.oV;exact⟨h1,0,⟨_,hrun,.inr ⟨JR,u,rfl,rfl,ml,S',p',JS,h3,h4,fun b hb hm=>h5 b (l_ hb hW.size) hm⟩⟩,.inl ⟨rfl,h2⟩⟩)
  refine(EM ⟨w4.heap.size,0,none⟩ ⟨w.heap.size,0,none⟩ w6 (fun b=>b=g) Q (fun q hq=>by subst hq;exact G6.o.lt) Ws.o).mono ?_
  rintro e w9 ⟨k,w8,rfl,hq,hT8,hT9,hB9⟩;rw[HQ.o] at hq;obtain⟨r,hrun,hq⟩:=hq;have UH:=q_ (hT9.blk (hT8.blk PB6.o (by have:=HG.o.2;omega)) (by have:=S6.o;omega));have OB9:=q_ (hT9.blk (hT8.blk OB6.o (by have:=HG.o.1;omega)) (by have:=OB6.o.lt;omega));have B9:=q_ (show Below w.heap.size w w9 from(B6.o.trans (hT8.below B6.o.size (fun b hb e=>by have:=HG.o.1;omega))).trans (hT9.below (t_ B6.o.size hT8.size) (fun b hb e=>by have:=B6.o.size;omega)));have HGK:=q_ (show g<w6.heap.size by have:=HG.o.2;have:=S6.o;omega);have SZ9:=q_ (show w6.heap.size<=w9.heap.size from t_ hT8.size hT9.size);have T9:=q_ hT9;clear hT8 hT9 Ws HQ PI6 PB6 OB6 NB6 G6 HT KK HX HX3 HS6;rcases hq with⟨er,u,rfl,rfl,p',hk9⟩|⟨st,u,rfl,rfl,ml,S',p',JS,hpl,hk9,hmu⟩
  ·have G9:=q_ (T9.o.blk hk9 (by have:=HGK.o;omega))
   have HRN:=q_ (show M.pd (M.flat t) m tables now (M.df fuel)=(.error k,u) by rw[HFE.o];exact hrun);have hne:k≠0:=M.wK (Vo.o.symm.trans hrun);have q1:(k==0)=false:=by simp[hne]
   have zp:=UH.o.cell;have zu:w9.cell? ⟨g,9,none⟩=some (.int .i64 (u:Nat)):=G9.o.cell 9;clear hk9 hrun hne;go_wp2_with (refine ah (cs':=#[.int .u8 0,.int .u8 0,.int .u8 0,.int .u8 0,.int .u8 0,.slice none 0 0,.slice none 0 0,.bool false,.int .i64 0,.string ⟨#[]⟩,.int .i64 0,.bool false,.int .i64 (u:Nat)]) rfl 35 (.tmp 10) (.tmp 45) rfl (w.heap.size+1+1) (by rfl) (by rfl) OB9.o rfl (by kernel_rfl) (by simp[Value.oneCell']) ?_;intro wA kA gA;have KA:=q_ kA;have GA:=q_ (ai B9.o gA (by omega));clear kA gA)
   (try simp only[Exit.inBlock,Exit.then]);exact bodyPost_ret (uf rfl KA.o rfl rfl rfl) rfl ⟨GA.o,_,k,rfl,.inr (.inl ⟨HPL.o,k,u,HRN.o,rfl,rfl⟩)⟩
  have Nv:=hB9 rfl;clear hB9;have G9:=q_ (hk9.below Nv hk9.lt);have MU9:=q_ (show∀b,b<w6.heap.size->ml b->b=g from hmu);have HRN:=q_ (show M.pd (M.flat t) m tables now (M.df fuel)=(.ok st,u) by rw[HFE.o];exact hrun);have Vp:=hpl.below Nv;have HS9:=q_ (show∀b,S' b->b<w9.heap.size from fun b hb=>(Vp.far b hb).1);have ST9:=q_ Vp.stop;have DD9:=q_ Vp.d;obtain⟨A9,n9,hv9,jbl,Wa⟩:=Vp.msg;obtain⟨AR,nr,U'⟩:=Vp.routes.shape;have OR9:=q_ Vp.routes;have Ye:=q_ Vp.jV;have RO9:=q_ Vp.fB;have HV9:=q_ hv9;have RV9:=q_ U';have OK9:=q_ jbl;have L9:=q_ Wa;clear hk9 hpl hmu hrun Nv Vp hv9 U' jbl Wa T9;have q1:((0:Int)==0)=true:=rfl;go_wp2_with fail;refine ak (KP:=fun _ _=>False) 17 [4] (KI w9 st.m 4) (by kernel_rfl) (by kernel_rfl) KI.start (fun ch a2 w5 hd hk=>hk.elim) ?_
  iterate 4
   apply ae rfl
   ·intro L vs wx hI hR hL K hK
    first
    |have c0:=fun i=>(UH.o.below hI.below UH.o.lt).cell i
     go_simp;exact hK _ (hI.pure (by decide))
    |have c0:=fun i=>JY (G9.o.below hI.below G9.o.lt) DD9.o HV9.o RV9.o ST9.o i
     go_simp;exact hK _ (hI.pure (by decide))
   intro KK af;go_simp;refine af _ ?_;clear af KK
  refine bc rfl ?_ ?_
  ·intro L vs wx hI hR hL K hK
   go_simp;exact(Pb st.m.d A9 n9 st.m.aH S' wx OK9.o (L9.o.below hI.below HS9.o) (fun b hb=>l_ (HS9.o b hb) hI.below.size)).mono fun e w' ⟨A,c,h1,h2,h3,h4⟩=>⟨_,h1,hK _ _ (hI.give h4 h2 h3)⟩
  intro YR af;go_simp;refine af _ ?_;clear af YR
  iterate 12
   apply ae rfl
   ·intro L vs wx hI hR hL K hK
    first
    |have c0:=fun i=>(UH.o.below hI.below UH.o.lt).cell i
     go_simp;exact hK _ (hI.pure (by decide))
    |have c0:=fun i=>JY (G9.o.below hI.below G9.o.lt) DD9.o HV9.o RV9.o ST9.o i
     go_simp;exact hK _ (hI.pure (by decide))
   intro KK af;go_simp;refine af _ ?_;clear af KK
  refine aw ?_;intro vs wA hI;obtain⟨AC,nc,e4,jbm,hlC⟩:=hI.one (by decide);have BA:=q_ hI.below;have OKC:=q_ jbm;have LC:=q_ hlC;intro YR af;have kg:=fun a w h=>af .normal a w h;simp only[List.drop_succ_cons];rw[e4];clear hI e4 jbm hlC;have OBA:=q_ (OB9.o.below BA.o OB9.o.lt);have B1A:=q_ (B9.o.trans (BA.o.mono B9.o.size))
  have RB:=q_ (show∀b,p'.rv.ownBlock=some b->w6.heap.size<=b from fun b hb=>by
   rcases Nat.lt_or_ge b w6.heap.size with h|h
   ·exact absurd (MU9.o b h (Ye.o b hb).1) (Ye.o b hb).2
   ·exact h)
  have W36:=q_ (show w.heap.size+1+1<w6.heap.size by have:=HG.o;have:=S6.o;omega);go_wp2_with (refine ah (cs':=bq st.m.d (.slice AC st.m.aH.length nc) (.slice AR st.routes.length nr) st.stopped M.cW (u:Nat)) rfl 35 (.tmp 10) (.tmp 64) rfl (w.heap.size+1+1) (by rfl) (by rfl) OBA.o rfl (by kernel_rfl) (by simp[bq,Value.oneCell']) ?_;intro wB kB gB;have KB:=q_ kB;have GB:=q_ gB;have BB:=q_ (ai B1A.o gB (by omega));clear kB gB)
  (try refine kg _ _ ?_)
  (try simp only[Exit.inBlock,Exit.then]);have TB:ax (fun b=>b=w.heap.size+1+1) wA wB:=(ax.refl _ wA).grown (fun _=>rfl) GB.o;refine bodyPost_ret (uf rfl KB.o rfl rfl rfl) rfl ⟨BB.o,_,0,rfl,.inr (.inr ⟨HPL.o,st,u,_,_,HRN.o,rfl,rfl,?_,?_⟩)⟩
  ·exact aU.zZ ((TB.nu LC.o (fun b hb=>⟨hb.2,by have:=hb.1;have:=SZ9.o;have:=W36.o;omega⟩)).wide (fun b hb=>⟨t_ B9.o.size hb.1,l_ hb.2 GB.o.size⟩)) OKC.o
  ·have ho:=(OR9.o.below BA.o).aK GB.o (fun e=>by have:=RB.o _ e;have:=W36.o;omega) (fun h=>h)
   rw[<-RV9.o];exact ho.reads (fun b hb=>hb.elim) (fun b hb=>⟨by have:=RB.o b hb;have:=W36.o;omega,(ho.aJ hb).2⟩) (by have:=RO9.o;omega)
namespace M
theorem MV(c:Cx)(d:Nat)(s:St)(t:Tree):1<=(aQ c (d+1) s t).2:=by
 obtain⟨x,ks⟩:=t;by_cases hx:x.op=0
 ·rw[EG hx];simp
 ·rw[wk hx];simp
theorem JZ{n:List Node}{m:dQ}{tables:List Table}{now:ByteArray}{F u:Nat}{r:Except Int St}(h:pd n m tables now F=(r,u)):u<=F:=by
 unfold pd at h;by_cases hq:0+(aQ ⟨tables,now⟩ 20 ⟨canon m,[],false,[]⟩ (iY n)).2<=F
 ·rw[bZ hq] at h;injection h with h1 h2;omega
 ·rw[eQ hq] at h;injection h with h1 h2;omega
theorem Vq{n:List Node}{m:dQ}{tables:List Table}{now:ByteArray}{F u:Nat}{st:St}(h:pd n m tables now F=(.ok st,u)):1<=u/\(∀F2,u<=F2->pd n m tables now F2=(.ok st,u))/\pd n m tables now (u-1)=(.error 83,u-1):=by
 have hp:=MV ⟨tables,now⟩ 19 ⟨canon m,[],false,[]⟩ (iY n);unfold pd at h⊢;generalize aQ ⟨tables,now⟩ 20 ⟨canon m,[],false,[]⟩ (iY n)=r at h hp⊢;obtain⟨k,hr,hu,hle⟩:=Rs h;subst hr;simp only at hp;refine⟨by omega,fun F2 h2=> ?_,eQ (by show¬0+k<=u-1;omega)⟩;rw[bZ (by show 0+k<=F2;omega),hu]
theorem Ir(more:Int)(u:Nat)(h:u<=2000):u<=df (max more u):=by unfold df;omega
theorem Iu(u:Nat)(h:u<=2000):df u=u:=by unfold df;omega
theorem EO(u:Nat)(h:u<=2000)(h1:1<=u):df ((u:Int)-1)=u-1:=by unfold df;omega
end M
def BM(u:Nat):Array Value:=#[.int .u8 0,.int .u8 0,.int .u8 0,.int .u8 0,.int .u8 0,.slice none 0 0,.slice none 0 0,.bool false,.int .i64 0,.string ⟨#[]⟩,.int .i64 0,.bool false,.int .i64 (u:Nat)]
theorem Iq.cases(h:Iq w n m tables now F e w'):
 (∃k u,k≠0/\u<=F/\e= .returned (.tuple #[.agg (BM u),.int .i64 k]))\/(M.qw n m tables/\∃st u,M.pd n m tables now F=(.ok st,u)):=by
 obtain⟨hb,cs,k,rfl,⟨h1,h2,rfl⟩|⟨h1,er,u,h2,rfl,rfl⟩|⟨h1,st,u,v,rv,h2,-⟩⟩:=h
 ·exact .inl ⟨k,0,h2,Nat.zero_le _,rfl⟩
 ·exact .inl ⟨k,u,M.wK h2,M.JZ h2,rfl⟩
 ·exact .inr ⟨h1,st,u,h2⟩
theorem Iq.ok{st:M.St}(h:Iq w n m tables now F e w')(hp:M.qw n m tables)(hr:M.pd n m tables now F=(.ok st,u)):
 ∃A1 c1 A2 c2,e= .returned (.tuple #[.agg (bq st.m.d (.slice A1 st.m.aH.length c1) (.slice A2 st.routes.length c2) st.stopped M.cW (u:Nat)),.int .i64 0])/\uO.R w' (New w w') [.slice A1 st.m.aH.length c1] st.m.aH/\cJ.R w' (New w w') [.slice A2 st.routes.length c2] st.routes:=by
 obtain⟨hb,cs,k,rfl,⟨h1,h2,rfl⟩|⟨h1,er,u2,h2,rfl,rfl⟩|⟨h1,st2,u2,v,rv,h2,rfl,rfl,h3,h4⟩⟩:=h
 ·exact absurd hp h1
 ·rw[hr] at h2;injection h2 with h2 h3;cases h2
 ·rw[hr] at h2
  injection h2 with h2 h5;cases h2;subst h5;obtain⟨A1,c1,rfl,-,-⟩:=aU.av (E:=aX) h3;obtain⟨A2,c2,rfl,-,-⟩:=aU.av (E:=bN) h4;exact⟨A1,c1,A2,c2,rfl,h3,h4⟩
theorem Iq.err{er:Int}(h:Iq w n m tables now F e w')(hp:M.qw n m tables)(hr:M.pd n m tables now F=(.error er,u)):
 e= .returned (.tuple #[.agg (BM u),.int .i64 er]):=by
 obtain⟨hb,cs,k,rfl,⟨h1,h2,rfl⟩|⟨h1,er2,u2,h2,rfl,rfl⟩|⟨h1,st2,u2,v,rv,h2,rfl,rfl,h3,h4⟩⟩:=h
 ·exact absurd hp h1
 ·rw[hr] at h2;injection h2 with h2 h3;cases h2;subst h3;rfl
 ·rw[hr] at h2;injection h2 with h2 h3;cases h2
theorem Rz(ALV:∀w,Calls Tryz.prog 6 #[] w fun e w'=>e= .returned (.bool true)/\Below w.heap.size w w')(n:List M.Node)(A:Option Addr)(c:Nat)(m:M.dQ)(mA:Option Addr)(mc:Nat)(tables:List M.Table)(tA:Option Addr)(tc:Nat)(more:Int)(S:Nat->Prop)(w:World)(hS:∀b,S b->b<w.heap.size)(aI:bX A n.length c)(hl:bn ENode w S A n.length n)(EN:bX mA m.aH.length mc)(xk:bn aX w S mA m.aH.length m.aH)(tG:bX tA tables.length tc)(El:bn cV w S tA tables.length tables)(hmx:0<w.heap.size/\∃z,w.cell? ⟨0,0,none⟩=some (.int .i64 z)):
 Calls Tryz.prog 3 #[.slice A n.length c,.agg #[.int .u8 (m.d.f.toNat:Int),.int .u8 (m.d.c.toNat:Int),.int .u8 (m.d.r.toNat:Int),.int .u8 (m.d.e.toNat:Int),.int .u8 (m.d.s.toNat:Int),.slice mA m.aH.length mc],.slice tA tables.length tc,.int .i64 more] w fun e w'=>e= .returned (.bool true)/\Below w.heap.size w w':=by
 have HA:=q_ ALV;obtain⟨w1,bu⟩:∃w1,w1=w.alloc (.cells #[.int .u8 (m.d.f.toNat:Int),.int .u8 (m.d.c.toNat:Int),.int .u8 (m.d.r.toNat:Int),.int .u8 (m.d.e.toNat:Int),.int .u8 (m.d.s.toNat:Int),.slice mA m.aH.length mc] 27):=⟨_,rfl⟩
 have B1:=q_ (show Below w.heap.size w w1 from bu▸(Below.refl _ w).alloc (n_) _);have WR:=q_ (show ar w1 w.heap.size 27 #[.int .u8 (m.d.f.toNat:Int),.int .u8 (m.d.c.toNat:Int),.int .u8 (m.d.r.toNat:Int),.int .u8 (m.d.e.toNat:Int),.int .u8 (m.d.s.toNat:Int),.slice mA m.aH.length mc] from bu▸ar.new w _ _);have tC:=bu.symm;clear bu;have KR:=q_ (fun(fuel:Int) (W:World) (h:Below w.heap.size w W)=>Vn n A c m mA mc tables tA tc ⟨#[]⟩ fuel S W (fun b hb=>l_ (hS b hb) h.size) aI (hl.below h hS) EN (xk.below h hS) tG (El.below h hS) (by decide) ⟨l_ hmx.1 h.size,by obtain⟨z,hz⟩:=hmx.2;exact⟨z,(h.cell (p:=⟨0,0,none⟩) hmx.1).trans hz⟩⟩);have KL:=q_ (fun(W:World) (h:Below w.heap.size w W)=>KH m.d mA mc m.aH S W (fun b hb=>l_ (hS b hb) h.size) EN (xk.below h hS));clear ALV hS aI hl EN xk tG El hmx;have F1:=q_ (show∀W,Below w.heap.size w W->Calls Tryz.prog 6 #[] W fun e w'=>e= .returned (.bool true)/\Below w.heap.size w w' from fun W h=>(HA.o W).mono fun e w' ⟨h1,h2⟩=>⟨h1,h.trans (h2.mono h.size)⟩);go_enter Tryz.func3,Tryz.ntmps3;have zm:=WR.o.cell
 by_cases h3:300<n.length
 ·have q0:decide ((300:Int)<(n.length:Int))=true:=by simp;omega
  clear h3;go_wp2_with fail;refine(F1.o _ B1.o).mono ?_
  rintro e w9 ⟨rfl,Nv⟩;go_wp2;go_ret;exact⟨rfl,Nv⟩
 have q0:decide ((300:Int)<(n.length:Int))=false:=by simp;omega
 clear h3;go_wp2_with fail;refine(KL.o w1 B1.o).mono ?_
 rintro e w2 ⟨⟨b,rfl⟩,hb2⟩;have B2:=q_ (B1.o.trans (hb2.mono B1.o.size));have MB2:=q_ (WR.o.below hb2 WR.o.lt);clear hb2 zm KL tC;cases b with
 |false=>
  go_wp2_with fail;refine(F1.o _ B2.o).mono ?_
  rintro e w9 ⟨rfl,Nv⟩;go_wp2;go_ret;exact⟨rfl,Nv⟩
 |true=>
  by_cases h4:20<tables.length
  ·have q1:decide ((20:Int)<(tables.length:Int))=true:=by simp;omega
   clear h4;go_wp2_with fail;refine(F1.o _ B2.o).mono ?_
   rintro e w9 ⟨rfl,Nv⟩;go_wp2;go_ret;exact⟨rfl,Nv⟩
  have q1:decide ((20:Int)<(tables.length:Int))=false:=by simp;omega
  clear h4;have zm:=MB2.o.cell;go_wp2_with fail;refine(KR.o 2000 w2 B2.o).mono ?_
  rintro e w3 hr3;have hf:M.df 2000=2000:=by decide
  rw[hf] at hr3;have B3:=q_ (B2.o.trans (hr3.1.mono B2.o.size));have Vk:=q_ (MB2.o.below hr3.1 MB2.o.lt);have OB3:=q_ (ar.new w3 35 jJ);have BB3:=q_ ((Below.refl _ w3).alloc (n_) (.cells jJ 35));clear zm q0 q1 hf;rcases hr3.cases with⟨k,u,hk,hu,rfl⟩|⟨hp,st,u,hst⟩
  ·have q2:(k==0)=false:=by simp[hk]
   have q3:decide ((0:Int)<=(u:Int))=true:=by simp
   have q4:decide ((u:Int)<=2000)=true:=by simp;omega
   clear hr3 hk hu;unfold BM jJ at*
   go_wp2_with (first
    |(refine ah (cs':=BM u) rfl 35 (.tmp 9) (.tmp 36) rfl w3.heap.size (by rfl) (by rfl) OB3.o rfl (by kernel_rfl) (by simp[BM,Value.oneCell']) ?_;intro w4 k4 g4
      have B4:=q_ (ai BB3.o g4 (n_));have K4:=q_ k4;clear k4 g4)
    |fail)
   have B14:=q_ (B3.o.trans (B4.o.mono B3.o.size));refine(HA.o w4).mono ?_
   rintro e w5 ⟨rfl,cT⟩;have z5:=(K4.o.below cT K4.o.lt).cell;have B5:=q_ (B14.o.trans (cT.mono B14.o.size));clear cT;unfold BM at z5;go_wp2;go_ret;exact⟨rfl,B5.o⟩
  obtain⟨S8,RA,WS⟩:=M.Vq hst;have nv:u<=2000:=M.JZ hst;obtain⟨A1,c1,A2,c2,rfl,Xt,jbn⟩:=hr3.ok hp hst;have HM3:=q_ Xt;have HR3:=q_ jbn;have HU:=q_ (And.intro S8 nv);have HP:=q_ hp;have HST:=q_ hst;have YL:=q_ RA;have HLS:=q_ WS;clear hr3 Xt jbn S8 nv hp hst RA WS
  go_wp2_with (first
   |(refine ah (cs':=bq st.m.d (.slice A1 st.m.aH.length c1) (.slice A2 st.routes.length c2) st.stopped M.cW (u:Nat)) rfl 35 (.tmp 9) (.tmp 36) rfl w3.heap.size (by rfl) (by rfl) OB3.o rfl (by kernel_rfl) (by simp[bq,Value.oneCell']) ?_;intro w4 k4 g4
     have D4:=ai BB3.o g4 (n_);have D34:=q_ D4;have K4:=q_ k4;have zm:=(Vk.o.below D4 Vk.o.lt).cell;have zu:w4.cell? ⟨w3.heap.size,12,none⟩=some (.int .i64 (u:Nat)):=k4.cell 12;clear k4 g4 D4)
   |fail)
  have B4:=q_ (B3.o.trans (D34.o.mono B3.o.size));have MB4:=q_ (Vk.o.below D34.o Vk.o.lt);clear zm zu;refine(KR.o (u:Int) w4 B4.o).mono ?_
  rintro e w5 hr;rw[M.Iu u HU.o.2] at hr;have E5:=q_ (show Below w4.heap.size w4 w5 from hr.1);obtain⟨A3,c3,A4,c4,rfl,hm5,Co⟩:=hr.ok HP.o (YL.o u (n_));have B5:=q_ (B4.o.trans (E5.o.mono B4.o.size));have WO:=q_ (MB4.o.below E5.o MB4.o.lt);have K5:=q_ (K4.o.below E5.o K4.o.lt);have HM5:=q_ hm5;have Ho:=q_ Co;have OB5:=q_ (ar.new w5 35 jJ);have BB5:=q_ ((Below.refl _ w5).alloc (n_) (.cells jJ 35));unfold jJ at OB5 BB5;clear hr hm5 Co
  go_wp2_with (first
   |(refine ah (cs':=bq st.m.d (.slice A3 st.m.aH.length c3) (.slice A4 st.routes.length c4) st.stopped M.cW (u:Nat)) rfl 35 (.tmp 11) (.tmp 69) rfl w5.heap.size (by rfl) (by rfl) OB5.o rfl (by kernel_rfl) (by simp[bq,Value.oneCell']) ?_;intro w6 k4 g4
     have D4:=ai BB5.o g4 (n_);have WT:=q_ D4;have L6:=q_ k4;have zm:=(WO.o.below D4 WO.o.lt).cell;have zu:w6.cell? ⟨w3.heap.size,12,none⟩=some (.int .i64 (u:Nat)):=(K5.o.below D4 K5.o.lt).cell 12;clear k4 g4 D4)
   |fail)
  have B6:=q_ (B5.o.trans (WT.o.mono B5.o.size));have MB6:=q_ (WO.o.below WT.o WO.o.lt);have K6:=q_ (K5.o.below WT.o K5.o.lt);clear zm zu;refine(KR.o (max more (u:Int)) w6 B6.o).mono ?_
  rintro e w7 hr;have E7:=q_ (show Below w6.heap.size w6 w7 from hr.1);obtain⟨A5,c5,A6,c6,rfl,hm7,XR⟩:=hr.ok HP.o (YL.o _ (M.Ir more u HU.o.2));have B7:=q_ (B6.o.trans (E7.o.mono B6.o.size));have MB7:=q_ (MB6.o.below E7.o MB6.o.lt);have K7:=q_ (K6.o.below E7.o K6.o.lt);have L7:=q_ (L6.o.below E7.o L6.o.lt);have HM7:=q_ hm7;have HR7:=q_ XR;have OB7:=q_ (ar.new w7 35 jJ);have BB7:=q_ ((Below.refl _ w7).alloc (n_) (.cells jJ 35));have hwr:IntKind.i64.wrap ((u:Int)-1)=(u:Int)-1:=IntWalk.i64_in _ ⟨by have:=HU.o;omega,by have:=HU.o;omega⟩;unfold jJ at OB7 BB7;clear hr hm7 XR
  go_wp2_with (first
   |(refine ah (cs':=bq st.m.d (.slice A5 st.m.aH.length c5) (.slice A6 st.routes.length c6) st.stopped M.cW (u:Nat)) rfl 35 (.tmp 13) (.tmp 80) rfl w7.heap.size (by rfl) (by rfl) OB7.o rfl (by kernel_rfl) (by simp[bq,Value.oneCell']) ?_;intro w8 k4 g4
     have D4:=ai BB7.o g4 (n_);have MW:=q_ D4;have N8:=q_ k4;have zm:=(MB7.o.below D4 MB7.o.lt).cell;have zu:w8.cell? ⟨w3.heap.size,12,none⟩=some (.int .i64 (u:Nat)):=(K7.o.below D4 K7.o.lt).cell 12;clear k4 g4 D4)
   |fail)
  have B8:=q_ (B7.o.trans (MW.o.mono B7.o.size));have K8:=q_ (K7.o.below MW.o K7.o.lt);have L8:=q_ (L7.o.below MW.o L7.o.lt);clear zm zu hwr;refine(KR.o ((u:Int)-1) w8 B8.o).mono ?_
  rintro e w9 hr;rw[M.EO u HU.o.2 HU.o.1] at hr;have E9:=q_ (show Below w8.heap.size w8 w9 from hr.1);obtain rfl:=hr.err HP.o HLS.o;have B9:=q_ (B8.o.trans (E9.o.mono B8.o.size));have K9:=q_ (K8.o.below E9.o K8.o.lt);have L9:=q_ (L8.o.below E9.o L8.o.lt);have N9:=q_ (N8.o.below E9.o N8.o.lt);have OB9:=q_ (ar.new w9 35 jJ);have BB9:=q_ ((Below.refl _ w9).alloc (n_) (.cells jJ 35));unfold jJ at OB9 BB9;clear hr;unfold BM
  go_wp2_with (first
   |(refine ah (cs':=BM (u-1)) rfl 35 (.tmp 15) (.tmp 90) rfl w9.heap.size (by rfl) (by rfl) OB9.o rfl (by kernel_rfl) (by simp[BM,Value.oneCell']) ?_;intro wA k4 g4
     have BA:=q_ (ai BB9.o g4 (n_));clear k4 g4)
   |fail)
  have B10:=q_ (B9.o.trans (BA.o.mono B9.o.size));have KA:=q_ (K9.o.below BA.o K9.o.lt);have LA:=q_ (L9.o.below BA.o L9.o.lt);have NA:=q_ (N9.o.below BA.o N9.o.lt);have sz:=q_ (show w3.heap.size<=w5.heap.size/\w5.heap.size<=w7.heap.size/\w7.heap.size<=wA.heap.size from⟨t_ D34.o.size E5.o.size,t_ WT.o.size E7.o.size,t_ (t_ MW.o.size E9.o.size) BA.o.size⟩)
  have R3:=q_ (fun(W:World) (h:Below wA.heap.size wA W)=>show uO.R W (New w2 w3) [.slice A1 st.m.aH.length c1] st.m.aH/\cJ.R W (New w2 w3) [.slice A2 st.routes.length c2] st.routes from
   have hb:Below w3.heap.size w3 W:=((((((D34.o.trans (E5.o.mono D34.o.size)).trans (WT.o.mono sz.o.1)).trans (E7.o.mono (t_ sz.o.1 WT.o.size))).trans (MW.o.mono (t_ sz.o.1 sz.o.2.1))).trans (E9.o.mono (t_ (t_ sz.o.1 sz.o.2.1) MW.o.size))).trans (BA.o.mono (t_ (t_ (t_ sz.o.1 sz.o.2.1) MW.o.size) E9.o.size))).trans (h.mono (t_ (t_ sz.o.1 sz.o.2.1) sz.o.2.2))
   ⟨aU.below HM3.o hb (fun b h=>h.2),aU.below HR3.o hb (fun b h=>h.2)⟩)
  have R5:=q_ (fun(W:World) (h:Below wA.heap.size wA W)=>show uO.R W (New w4 w5) [.slice A3 st.m.aH.length c3] st.m.aH/\cJ.R W (New w4 w5) [.slice A4 st.routes.length c4] st.routes from
   have hb:Below w5.heap.size w5 W:=((((WT.o.trans (E7.o.mono WT.o.size)).trans (MW.o.mono sz.o.2.1)).trans (E9.o.mono (t_ sz.o.2.1 MW.o.size))).trans (BA.o.mono (t_ (t_ sz.o.2.1 MW.o.size) E9.o.size))).trans (h.mono (t_ sz.o.2.1 sz.o.2.2))
   ⟨aU.below HM5.o hb (fun b h=>h.2),aU.below Ho.o hb (fun b h=>h.2)⟩)
  have R7:=q_ (fun(W:World) (h:Below wA.heap.size wA W)=>show uO.R W (New w6 w7) [.slice A5 st.m.aH.length c5] st.m.aH/\cJ.R W (New w6 w7) [.slice A6 st.routes.length c6] st.routes from
   have hb:Below w7.heap.size w7 W:=((MW.o.trans (E9.o.mono MW.o.size)).trans (BA.o.mono (t_ MW.o.size E9.o.size))).trans (h.mono sz.o.2.2)
   ⟨aU.below HM7.o hb (fun b h=>h.2),aU.below HR7.o hb (fun b h=>h.2)⟩)
  have q5:decide ((1:Int)<=(u:Int))=true:=by have:=HU.o.1;simp;omega
  refine(HA.o wA).mono ?_
  rintro e wB ⟨rfl,js⟩;have BB:=q_ js;have kb:=(KA.o.below js KA.o.lt).cell;have lb:=(LA.o.below js LA.o.lt).cell;have nb:=(NA.o.below js NA.o.lt).cell;have KB:=q_ (KA.o.below js KA.o.lt);have NB:=q_ (NA.o.below js NA.o.lt);clear js;unfold bq M.cW at kb lb nb;go_wp2_with fail;refine(yi st.m.d (.slice A1 st.m.aH.length c1) (.slice A3 st.m.aH.length c3) (.slice A2 st.routes.length c2) (.slice A4 st.routes.length c4) st.m.aH st.routes st.stopped M.cW (u:Nat) (New w2 w3) (New w4 w5) wB (fun b h=>by have:=h.2;have:=sz.o;have:=BB.o.size;omega) (fun b h=>by have:=h.2;have:=sz.o;have:=BB.o.size;omega) (R3.o wB BB.o).1 (R5.o wB BB.o).1 (R3.o wB BB.o).2 (R5.o wB BB.o).2).mono ?_
  rintro e wC ⟨rfl,Fz⟩;have BC:=q_ (BB.o.trans (Fz.mono BB.o.size));have kc:=(KB.o.below Fz KB.o.lt).cell;have nc:=(NB.o.below Fz NB.o.lt).cell;have KC:=q_ (KB.o.below Fz KB.o.lt);clear Fz kb lb nb;unfold bq M.cW at kc nc;go_wp2_with fail;refine(yi st.m.d (.slice A1 st.m.aH.length c1) (.slice A5 st.m.aH.length c5) (.slice A2 st.routes.length c2) (.slice A6 st.routes.length c6) st.m.aH st.routes st.stopped M.cW (u:Nat) (New w2 w3) (New w6 w7) wC (fun b h=>by have:=h.2;have:=sz.o;have:=BC.o.size;omega) (fun b h=>by have:=h.2;have:=sz.o;have:=BC.o.size;omega) (R3.o wC BC.o).1 (R7.o wC BC.o).1 (R3.o wC BC.o).2 (R7.o wC BC.o).2).mono ?_
  rintro e wD ⟨rfl,hbD⟩;have BD:=q_ (B10.o.trans ((BC.o.trans (hbD.mono BC.o.size)).mono B10.o.size));have kd:=(KC.o.below hbD KC.o.lt).cell;clear hbD kc nc;unfold bq M.cW at kd;go_wp2;go_ret;exact⟨rfl,BD.o⟩
end
section
open Go.RowKit Go.WideShapes Go.ChangeShapes Go.ChangeAt
section
variable {H:Type} {enc:TypeId×Value->H} {P:Program}
theorem xQ{f:Func}{s:ChangeSpec}{apart fresh handsOn again:Bool}{W W':World}{args:Array Value}{v:Value}{ds gs:List (DataW H)}{before pa pv:List MemPlace}(hW:DataW.Whole enc P f.params.toList s.vars apart W args.toList ds gs before)(hres:∀(b:Nat) (sp:Nat->Bool) (hd:Bool),DataW.TrodAll enc P W' b sp hd f.resultTypes.toList (v.resultList f.resultTypes.size) (s.fn H (ds++gs)).results [])(bo:∀sp:Nat->Bool,(∀p∈before,sp p.block=true)->DataW.TrodAll enc P W' 0 sp true f.params.toList args.toList (s.fn H (ds++gs)).args pa)(WU:∀sp:Nat->Bool,(∀p∈before,sp p.block=true)->DataW.TrodVars enc P W' sp s.vars (s.fn H (ds++gs)).vars pv)(SE:before=pa++pv)(hb:Below W.heap.size W W')(aI:∀(j:Nat) (t:TypeId) (r:Value),f.resultTypes[j]? =some t->(v.resultList f.resultTypes.size)[j]? =some r->Value.okWide P W' .any 0 t r):
 s.post enc P f apart fresh handsOn again W args v W':=by
 have hlt:∀p∈before,p.block<W.heap.size:=fun p hp=>hW.lt p hp;have hold:∀p∈before,(fun b=>decide (b<W.heap.size)) p.block=true:=fun p hp=>by simpa using hlt p hp
 refine⟨ds,gs,before,[],pa,pv,hW,hres _ _ _,bo _ hold,WU _ hold,World.keptBut_mono (fun p hp=>⟨hp,?_⟩) (hb.frame (·∈before)),fun _=> ?_⟩
 ·rw[SE,List.mem_append] at hp
  exact Or.inr hp
 ·obtain⟨_,_,_,_,_,hz,hn⟩:=hW
  refine⟨aI,_,_,([]++pa)++pv,⟨[]++pa,pv,trodAll_append (bo _ (fun _ _=>rfl)) (hres _ _ _),WU _ (fun _ _=>rfl),rfl,?_,?_⟩,?_⟩
  ·intro b off hp
   have dr:MemPlace.cell b off∈before:=by rw[SE];simpa using hp
   rw[hb.frozen (hlt _ dr)];exact hz b off dr
  ·intro ha
   have:=hn ha;rw[SE] at this;simpa using this
  ·intro p hp _
   rw[SE];simpa using hp
end
theorem own:ownKnob Tryz.prog.godebug=none:=by kernel_rfl
end
section
open Go.ChangeShapes Go.WideShapes Go.ChangeAt Go.RowKit
open Go.ChangeMaps (open_string shut_string)
theorem kQ{B:Nat}(h:Below B w w'){p:MemPlace}(hp:p.block<B):w.sameAt w' p:=by
 cases p with
 |cell b off=>exact h.cell (p:=⟨b,off,none⟩) hp
 |map b=>exact h.block b hp
def J5:Prop:=∀w,Calls Tryz.prog 6 #[] w fun e w'=>e= .returned (.bool true)/\Below w.heap.size w w'
abbrev RD:List (String×DataW Unit):=[("unicode/utf8.acceptRanges",Rows.laid_unicode_utf8_acceptRanges),("unicode/utf8.first",Rows.laid_unicode_utf8_first)]
theorem EP:(((begin Tryz.prog (fun _ _=>0) default).world.heap[0]?).bind Obj.row?).map (fun x=>(x.1.size,x.2))=some (1,3):=by kernel_rfl
theorem ER{W:World}(h:W.ShapedOpen Tryz.prog):0<W.heap.size/\∃z,W.cell? ⟨0,0,none⟩=some (.int .i64 z):=by
 obtain⟨⟨zero,t⟩,h1,h2⟩:=Option.map_eq_some_iff.1 EP;simp only[Prod.mk.injEq] at h2;obtain⟨hz,rfl⟩:=h2;obtain⟨z,hc⟩:=cell_of_shapedOpen_int h (g:=0) (of_decide_eq_true (by kernel_rfl)) h1 hz (by kernel_rfl) (by kernel_rfl) Tryz.underlying3;exact⟨World.block_lt_of_cell? _ _ hc,z,hc⟩
theorem contract(ALV:J5)(H:Type)(enc:TypeId×Value->H)(W:World)(base:Nat)(args:Array Value)(ds gs:List (DataW H))(before:List MemPlace)(WV:∀(j:Nat) t v,Tryz.f3.params[j]? =some t->args[j]? =some v->Value.okWide Tryz.prog W .any base t v)(hW:DataW.Whole enc Tryz.prog Tryz.f3.params.toList Rows.evalFuelSpec.vars false W args.toList ds gs before)(hk:Rows.uptoSmall H (ds++gs)=true)(kZ:W.ShapedOpen Tryz.prog):
 Calls Tryz.prog 3 args W fun e W'=>∃v,e= .returned v/\Rows.evalFuelSpec.post enc Tryz.prog Tryz.f3 false true false false W args v W':=by
 have hval:∀(j:Nat) t v,Tryz.f3.params[j]? =some t->args[j]? =some v->Value.okWide Tryz.prog W .any base t v:=WV;have hW':=hW;obtain⟨p,q,We,hV,rfl,_,_⟩:=hW;have hA:DataW.TrodAll enc Tryz.prog W 0 (fun _=>true) true Tryz.f3.params.toList args.toList ds p:=We;rw[Tryz.params3] at hA hval;obtain⟨v0,vs0,d0,ds0,p0,q0,bo,rfl,rfl,h0,r0⟩:=trodAll_cons hA;obtain⟨v1,vs1,d1,ds1,p1,q1,rfl,rfl,rfl,h1,r1⟩:=trodAll_cons r0;obtain⟨v2,vs2,d2,ds2,p2,q2,rfl,rfl,rfl,h2,r2⟩:=trodAll_cons r1;obtain⟨v3,vs3,d3,ds3,p3,q3,rfl,rfl,rfl,h3,r3⟩:=trodAll_cons r2;obtain⟨rfl,rfl,rfl⟩:=trodAll_nil r3;obtain rfl:args=#[v0,v1,v2,v3]:=by cases args;simp_all
 obtain⟨rfl,rfl⟩:=trodVars_none hV;have hb:=of_decide_eq_true hk;simp only[List.append_nil,Rows.uptoBulkAll] at hb;have k0:=h0;have k1:=h1;have k2:=h2;obtain⟨A,c,n,rfl,aI,hl⟩:=ya Tryz.underlying22 (dK Tryz.underlying22 (by kernel_rfl) F7) (hval 0 22 v0 rfl rfl) h0 (by omega);obtain⟨m,mA,mc,rfl,EN,xk⟩:=Od (hval 1 27 v1 rfl rfl) h1 (by omega);obtain⟨tA,tc,tables,rfl,tG,El⟩:=ya Tryz.underlying28 (dK Tryz.underlying28 (by kernel_rfl) CW) (hval 2 28 v2 rfl rfl) h2 (by omega);obtain⟨more,rfl,rfl,rfl,w3⟩:=open_int Tryz.underlying3 (hval 3 3 v3 rfl rfl) h3;clear We WV;simp only[List.append_nil] at hW';refine(Rz ALV n A c m mA mc tables tA tc more (fun b=>b<W.heap.size) W (fun b h=>h) aI hl EN xk tG El (ER kZ)).mono fun e W' ⟨he,hb⟩=> ?_
 subst he
 exact⟨_,rfl,xQ (pa:=p0++(p1++p2)) (pv:=[]) hW' (fun _ _ _=>trodAll_cons_mk (shut_bool Tryz.underlying4 _) trodAll_mk0) (fun sp hsp=>by
  have:=trodAll_cons_mk (WideElems.Trod_stays ma (by kernel_rfl) (of_decide_eq_true (by kernel_rfl)) k0 (fun x hx=>kQ hb (hW'.lt x (by simp[hx]))) (fun x hx=>hsp x (by simp[hx])))
   (trodAll_cons_mk (WideElems.Trod_stays ma (by kernel_rfl) (of_decide_eq_true (by kernel_rfl)) k1 (fun x hx=>kQ hb (hW'.lt x (by simp[hx]))) (fun x hx=>hsp x (by simp[hx])))
   (trodAll_cons_mk (WideElems.Trod_stays ma (by kernel_rfl) (of_decide_eq_true (by kernel_rfl)) k2 (fun x hx=>kQ hb (hW'.lt x (by simp[hx]))) (fun x hx=>hsp x (by simp[hx])))
   (trodAll_cons_mk (shut_int Tryz.underlying3 w3) trodAll_mk0)))
  simp only[List.append_nil] at this;exact this) (fun _ _=>rfl) (by simp)
  hb (ok_one (by kernel_rfl) rfl (okWide_bool_mk Tryz.underlying4 _))⟩
def RF:Array Value:=#[.slice none 0 0,.agg #[.int .u8 0,.int .u8 0,.int .u8 0,.int .u8 0,.int .u8 0,.slice none 0 0],.slice none 0 0,.int .i64 0]
theorem YS(os:Os){H:Type}(enc:TypeId×Value->H):∃places,DataW.whole enc Tryz.prog ((World.laidAll Tryz.prog os RD).forCall (fun _ _=>0) ⟨#[],RF,[]⟩).memory Tryz.f3.params.toList Rows.evalFuelSpec.vars false RF.toList 8=some ([.nil,.agg [.agg [.lit (.int .u8 0),.lit (.int .u8 0),.lit (.int .u8 0),.lit (.int .u8 0),.lit (.int .u8 0)],.nil],.nil,.lit (.int .i64 0)],[],places):=
 ⟨[],by kernel_rfl⟩
theorem lifted(ALV:J5)(os:Os)(started:os.Started)(H:Type)(enc:TypeId×Value->H)(F:Stop.Interp):
 ReturnsInHanded {} Tryz.checked os 3 .any ((Rows.OpenSpec.upto Rows.evalFuelSpec).preRow enc Tryz.prog Tryz.f3 Rows.evalFuelUptoRow.domain false Rows.evalFuelUptoRow.laid) (((Rows.OpenSpec.upto Rows.evalFuelSpec).at F).post enc Tryz.prog Tryz.f3 false true false false):=by
 obtain⟨places,hx⟩:=YS os enc
 refine returnsInHanded_of_row (C:=Tryz.checked) (s:=Rows.OpenSpec.upto Rows.evalFuelSpec) (show ownKnob Tryz.prog.godebug=none by kernel_rfl) started (by kernel_rfl) Tryz.func3
  ⟨World.laidAll Tryz.prog os RD,fun _ _=>0,⟨#[],RF,[]⟩,World.laidAll_os _ _ _,World.shaped_of_ZipB (by kernel_rfl) (by kernel_rfl),rfl,(Input.okWide_of_okWideB (by kernel_rfl)).2,
   OpenSpec.preRow_of_cond 8 hx (by kernel_rfl) (fun k hk=>by cases hk;kernel_rfl) (by kernel_rfl) (by
    show laidMetH Tryz.prog RD _;rw[MakeChecks.laidMetH_plain _ _ _ (by kernel_rfl)];exact laidMet_laidAll _ (by kernel_rfl) (by kernel_rfl)),by
   simp only[Assume.holds];exact⟨by simp,(fun h=>by cases h),(fun h=>by cases h),(fun d h=>by cases h),(fun d h=>by cases h),(fun h=>by cases h)⟩⟩ ?_
 intro W base args ds gs before hval hW _ ou _ _ kZ _;exact contract ALV H enc W base args ds gs before hval hW (ou _ rfl) kZ
end
section
open Go
theorem RG:Tryz.prog.funcNamed "caduceus/caduceuslaw17.EvalFuel"=some 3:=by kernel_rfl
theorem joined:joinedFacts Tryz.pinned.checked.prog 3 Tryz.f3 (Rows.OpenSpec.upto Rows.evalFuelSpec).bare Rows.evalFuelUptoRow=true:=by kernel_rfl
theorem over:Rows.EvalFuelUptoSaid:=
 OpenClaim.holds_of_cond 3 Tryz.f3 rfl rfl rfl rfl rfl rfl rfl ⟨rfl,rfl,rfl,rfl,rfl⟩ rfl rfl rfl rfl rfl RG Tryz.func3 joined
  (of_decide_eq_true (by as_aux_lemma=>kernel_rfl)) (by unfold Func.isWrapper;first|(rw[if_pos (by decide+kernel)];kernel_rfl)|(rw[if_neg (by decide+kernel)];exact⟨rfl,rfl⟩))
  (fun os started H enc _ F=>by rw[OpenClaim.pre_eq_preRow];exact lifted NV os started H enc F)
theorem MZ(f:FuncId)(fn:Func)(hf:Tryz.pinned.checked.prog.funcNamed "caduceus/caduceuslaw17.EvalFuel"=some f)(hfn:Tryz.pinned.checked.prog.funcs[f]? =some fn):
 true=Tryz.pinned.checked.prog.looks []/\∀(j:Nat) t,fn.params[j]? =some t->Tryz.pinned.checked.prog.wantsStandIn t=false:=by
 obtain rfl:f=3:=i_ (RG.symm.trans hf)|>.symm
 obtain rfl:fn=Tryz.f3:=(i_ (Tryz.func3.symm.trans hfn)).symm;refine⟨by kernel_rfl,fun j t ht=> ?_⟩;rw[Tryz.params3] at ht;have hm:t∈[22,27,28,3]:=by simpa using Array.mem_of_getElem? ht
 exact(show Tryz.prog.wantsStandIn t=false by simpa using List.all_eq_true.1 (show([22,27,28,3].all fun u=> !Tryz.prog.wantsStandIn u)=true by kernel_rfl) t hm)
theorem proved:Rows.EvalFuelUptoCardSaid:=
 Claim7.holds_tied_plain_at .later [] _ _ _ _ over (fun _ h=>by cases h) (by kernel_rfl) (fun _ h=>by cases h) evalFuelUpto_row_tie rfl ⟨rfl,rfl⟩ (by kernel_rfl) rfl MZ (by kernel_rfl)
end
end Go.Proofs.YtpohlhkgbmdieaaGreatDoor
