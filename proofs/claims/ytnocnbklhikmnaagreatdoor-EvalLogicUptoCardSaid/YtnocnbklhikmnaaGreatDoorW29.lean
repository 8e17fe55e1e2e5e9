/- Part 29 of the proof. -/
import Derived.Test.YtnocnbklhikmnaaGreatDoorW28
set_option linter.unusedVariables false
set_option maxRecDepth 1000000
set_option maxHeartbeats 16000000
namespace Go.Proofs.YtnocnbklhikmnaaGreatDoor
variable{α:Type}
section
open Go.RowKit
def overC(c:List ByteArray):Bool:=decide (50<c.length)
def overR(r:List (List ByteArray)):Bool:=decide (50<r.length)||r.any overC
def overF(f:List (List (List ByteArray))):Bool:=decide (50<f.length)||f.any overR
theorem fits_eq(s:M.Seg):M.fits s=(decide (s.fields.length<=100)&& !s.fields.any overF):=by
 have h3:∀c:List ByteArray,(!overC c)=decide (c.length<=50):=fun c=>by
  unfold overC;rw[Bool.eq_iff_iff];simp
 have h2:∀r:List (List ByteArray),(!overR r)=(decide (r.length<=50)&&r.all fun c=>decide (c.length<=50)):=fun r=>by
  unfold overR;rw[Bool.not_or,List.not_any_eq_all_not];congr 1
  ·rw[Bool.eq_iff_iff];simp
  ·congr 1;funext c;exact h3 c
 have h1:∀f:List (List (List ByteArray)),(!overF f)=(decide (f.length<=50)&&f.all fun r=>decide (r.length<=50)&&r.all fun c=>decide (c.length<=50)):=fun f=>by
  unfold overF;rw[Bool.not_or,List.not_any_eq_all_not];congr 1
  ·rw[Bool.eq_iff_iff];simp
  ·congr 1;funext r;exact h2 r
 unfold M.fits;congr 1;rw[List.not_any_eq_all_not];congr 1;funext f;exact(h1 f).symm
def atB(p:α->Bool)(xs:List α)(k:Nat):Bool:=match xs[k]?with|some x=>p x|none=>false
theorem atB_some{p:α->Bool}{xs:List α}{k:Nat}{x:α}(h:xs[k]? =some x):atB p xs k=p x:=by unfold atB;rw[h]
theorem any_atB(p:α->Bool)(xs:List α):(List.range xs.length).any (atB p xs)=xs.any p:=any_range rfl (fun k x h=>atB_some h)
theorem len_gt{n m:Nat}:decide ((m:Int)<(n:Int))=decide (m<n):=by rw[Bool.eq_iff_iff];simp
theorem enters_121:Enters Tryz.prog 38:=fun _ _=>rfl
theorem enters_119:Enters Tryz.prog 36:=fun _ _=>rfl
theorem enters_117:Enters Tryz.prog 34:=fun _ _=>rfl
theorem fits111_any(A:Option Addr)(n c:Nat)(w:World):Calls Tryz.prog 38 #[.slice A n c] w fun e w'=>e= .returned (.bool (decide (50<n)))/\w=w':=by
 go_enter Tryz.func38,Tryz.ntmps38;go_wp2;go_ret;exact⟨by rw[<-len_gt];rfl,rfl⟩
theorem fits11_any(A:Option Addr)(c:Nat)(r:List (List ByteArray))(S:Nat->Prop)(w:World)(hok:SOk A r.length c)(hl:LAt EComp w S A r.length r):
 Calls Tryz.prog 36 #[.slice A r.length c] w fun e w'=>e= .returned (.bool (overR r))/\w=w':=by
 by_cases h5:50<r.length
 ·have HR:=q_ (show overR r=true from by unfold overR;rw[decide_eq_true h5];rfl)
  have t1:decide ((50:Int)<(r.length:Int))=true:=by simp;omega
  clear h5 hl hok;generalize r.length=n at*;go_enter Tryz.func36,Tryz.ntmps36;go_wp2_with fail;go_ret;exact⟨by rw[HR.o];rfl,rfl⟩
 ·have HR:=q_ (show overR r=r.any overC from by unfold overR;rw[decide_eq_false h5];rfl)
  have t1:decide ((50:Int)<(r.length:Int))=false:=by simp;omega
  have KC:=q_ (hasC_any EComp rfl (atB overC r) (fun _ W=>w=W) 38 #[] A r.length c r S w enters_121 hok rfl (fun _ W hW=>hW▸hl) (fun k W x u hk hW hx hr=>by
   obtain⟨A2,c2,rfl,_⟩:=Enc.list_inv (E:=EStr) hr;rw[atB_some hx];exact(fits111_any A2 x.length c2 W).mono fun e w' ⟨he,hw⟩=>⟨by rw[he];rfl,hW.trans hw⟩))
  rw[any_atB] at KC;clear h5 hl hok;generalize r.length=n at*;go_enter Tryz.func36,Tryz.ntmps36;go_wp2_with fail;refine KC.o.mono ?_;rintro e w2 ⟨rfl,_,rfl⟩;go_wp2;go_ret;exact⟨by rw[HR.o];rfl,rfl⟩
theorem fits1_any(A:Option Addr)(c:Nat)(f:List (List (List ByteArray)))(S:Nat->Prop)(w:World)(hok:SOk A f.length c)(hl:LAt ERep w S A f.length f):
 Calls Tryz.prog 34 #[.slice A f.length c] w fun e w'=>e= .returned (.bool (overF f))/\w=w':=by
 by_cases h5:50<f.length
 ·have HR:=q_ (show overF f=true from by unfold overF;rw[decide_eq_true h5];rfl)
  have t1:decide ((50:Int)<(f.length:Int))=true:=by simp;omega
  clear h5 hl hok;generalize f.length=n at*;go_enter Tryz.func34,Tryz.ntmps34;go_wp2_with fail;go_ret;exact⟨by rw[HR.o];rfl,rfl⟩
 ·have HR:=q_ (show overF f=f.any overR from by unfold overF;rw[decide_eq_false h5];rfl)
  have t1:decide ((50:Int)<(f.length:Int))=false:=by simp;omega
  have KC:=q_ (hasR_any ERep rfl (atB overR f) (fun _ W=>w=W) 36 #[] A f.length c f S w enters_119 hok rfl (fun _ W hW=>hW▸hl) (fun k W x u hk hW hx hr=>by
   obtain⟨A2,c2,rfl,ok2,l2⟩:=Enc.list_inv (E:=EComp) hr;rw[atB_some hx];exact(fits11_any A2 c2 x S W ok2 l2).mono fun e w' ⟨he,hw⟩=>⟨by rw[he],hW.trans hw⟩))
  rw[any_atB] at KC;clear h5 hl hok;generalize f.length=n at*;go_enter Tryz.func34,Tryz.ntmps34;go_wp2_with fail;refine KC.o.mono ?_;rintro e w2 ⟨rfl,_,rfl⟩;go_wp2;go_ret;exact⟨by rw[HR.o];rfl,rfl⟩
theorem fits_any(A:Option Addr)(c:Nat)(s:M.Seg)(S:Nat->Prop)(w:World)(hS:∀b,S b->b<w.heap.size)(hok:SOk A s.fields.length c)(hl:LAt EField w S A s.fields.length s.fields):
 Calls Tryz.prog 13 #[.agg #[.string s.name,.slice A s.fields.length c]] w fun e w'=>e= .returned (.bool (M.fits s))/\Below w.heap.size w w':=by
 rw[fits_eq];generalize s.name=nm at*;generalize s.fields=l at*;have HB:=q_ ((Below.refl w.heap.size w).alloc (n_) (.cells #[.string nm,.slice A l.length c] 45));by_cases h5:100<l.length
 ·have HR:=q_ (show(decide (l.length<=100)&& !l.any overF)=false from by rw[decide_eq_false (by omega)];rfl)
  have t1:decide ((100:Int)<(l.length:Int))=true:=by simp;omega
  clear h5 hl hok hS;generalize l.length=n at*;go_enter Tryz.func13,Tryz.ntmps13;go_wp2_with fail;go_ret;exact⟨by rw[HR.o];rfl,HB.o⟩
 ·have HR:=q_ (show(decide (l.length<=100)&& !l.any overF)= !l.any overF from by rw[decide_eq_true (by omega)];rfl)
  have t1:decide ((100:Int)<(l.length:Int))=false:=by simp;omega
  have hl2:=hl.below HB.o hS
  have KC:=q_ (hasF_any EField rfl (atB overF l) (fun _ W=>w.alloc (.cells #[.string nm,.slice A l.length c] 45)=W) 34 #[] A l.length c l S (w.alloc (.cells #[.string nm,.slice A l.length c] 45)) enters_117 hok rfl (fun _ W hW=>hW▸hl2) (fun k W x u hk hW hx hr=>by
   obtain⟨A2,c2,rfl,ok2,l2⟩:=Enc.list_inv (E:=ERep) hr;rw[atB_some hx];exact(fits1_any A2 c2 x S W ok2 l2).mono fun e w' ⟨he,hw⟩=>⟨by rw[he],hW.trans hw⟩))
  rw[any_atB] at KC;clear h5 hl hok hl2 hS;generalize l.length=n at*;go_enter Tryz.func13,Tryz.ntmps13;go_wp2_with fail;refine KC.o.mono ?_;rintro e w2 ⟨rfl,_,rfl⟩;go_wp2;go_ret;exact⟨by rw[HR.o];rfl,HB.o⟩
end
section
open Go Go.RowKit Go.BigFrame
theorem word_sign(s:ByteArray)(w:World)(hs:s.size<=100000)(h0:0<s.size)(hl0:Ad.letter s[0]=false)(hl:Ad.digit s[0]=false)(hq:s[0].toNat≠34)(hp:s[0].toNat≠64):
 Calls Tryz.prog 127 #[.string s] w fun e w'=>WordOut s e/\Below w.heap.size w w':=by
 have hi1:∀W:World,(Instr.index 9 (.string s) (.int .i64 0)).run Tryz.prog W= .ok (.int .u8 (s[0].toNat:Int)) W:=fun W=>idx_atu s 0 (by omega) rfl W;have hc:=s[0].toNat_lt
 obtain⟨r,hd⟩:∃r,s.data.toList=s[0]::r:=⟨s.data.toList.drop 1,by
  have:=List.drop_eq_getElem_cons (l:=s.data.toList) (i:=0) (by simpa using h0);rw[List.drop_zero] at this;exact this⟩
 have HF:=q_ (show Ad.wordX s.data.toList=if Ad.signN s.data.toList=0 then .error 80 else .ok (⟨5,s.data.toList.take (Ad.signN s.data.toList),0⟩,Ad.signN s.data.toList) from by
  generalize s.data.toList=L at*;subst hd;unfold Ad.wordX;simp only[hl0,hl,hq,hp,Bool.false_eq_true,if_false])
 have hn:=Ad.signN_len s.data.toList;obtain⟨n,hN⟩:∃n,Ad.signN s.data.toList=n:=⟨_,rfl⟩
 rw[len_size,hN] at hn;rw[hN] at HF;generalize s[0]=c at*
 have K1:=q_ (show∀W:World,Calls Tryz.prog 212 #[.int .u8 (c.toNat:Int)] W fun e w'=>e= .returned (.bool false)/\w'=W from fun W=>by
  have:=letter_any c W
  rwa [hl0] at this)
 have K1d:=q_ (show∀W:World,Calls Tryz.prog 215 #[.int .u8 (c.toNat:Int)] W fun e w'=>e= .returned (.bool false)/\w'=W from fun W=>by
  have:=isDigit_any c W
  rwa [hl] at this)
 have KS:=q_ (show∀W:World,Calls Tryz.prog 219 #[.string s] W fun e w'=>e= .returned (.int .i64 (n:Nat))/\w'=W from fun W=>by
  have:=sign_any s W (by omega) h0
  rwa [hN] at this)
 clear hN;have y1:((c.toNat:Int)==34)=false:=by rw[beq_eq_false_iff_ne];omega
 have y2:((c.toNat:Int)==64)=false:=by rw[beq_eq_false_iff_ne];omega
 clear hd hl hl0 hq hp;go_enter Tryz.func127,Tryz.ntmps127;go_wp2_with (first|(go_at_call 212;refine(K1.o _).mono ?_;rintro e w' ⟨rfl,rfl⟩)|(go_at_call 215;refine(K1d.o _).mono ?_;rintro e w' ⟨rfl,rfl⟩));refine(KS.o _).mono ?_
 rintro e w' ⟨rfl,rfl⟩;by_cases hn0:n=0
 ·subst hn0
  have HF2:=q_ (HF.o.trans (if_pos rfl));go_wp2_with fail;refine bodyPost_ret (word_res ((Blk.new w _ _).alloc _) rfl rfl rfl rfl) rfl ⟨WordOut.bad HF2.o,((Below.refl _ w).alloc (n_) _).alloc (by simp) _⟩
 ·have HF2:=q_ (HF.o.trans (if_neg hn0))
  have hnq:((n:Int)==0)=false:=by rw[beq_eq_false_iff_ne];omega
  have K3:=q_ (sclone_any (s.extract 0 n) ((w.alloc (.cells zw 137)).alloc (.cells #[.int .i64 5,.string (s.extract 0 n),.int .i64 0,.string ⟨#[]⟩,.int .i64 0,.int .i64 0,.int .i64 0,.int .i64 0,.int .i64 0,.int .i64 0,.int .i64 0] 137)) (by rw[ByteArray.size_extract];omega));go_wp2_with fail;refine K3.o.mono ?_;rintro e w1 ⟨rfl,hb1⟩;have hg0:=((Blk.new w 137 zw).alloc (.cells #[.int .i64 5,.string (s.extract 0 n),.int .i64 0,.string ⟨#[]⟩,.int .i64 0,.int .i64 0,.int .i64 0,.int .i64 0,.int .i64 0,.int .i64 0,.int .i64 0] 137)).below hb1 (by simp;omega)
  have hg1:Blk w1 (w.heap.size+1) 137 #[.int .i64 5,.string (s.extract 0 n),.int .i64 0,.string ⟨#[]⟩,.int .i64 0,.int .i64 0,.int .i64 0,.int .i64 0,.int .i64 0,.int .i64 0,.int .i64 0]:=by
   have:=(Blk.new (w.alloc (.cells zw 137)) 137 #[.int .i64 5,.string (s.extract 0 n),.int .i64 0,.string ⟨#[]⟩,.int .i64 0,.int .i64 0,.int .i64 0,.int .i64 0,.int .i64 0,.int .i64 0,.int .i64 0]).below hb1 (by simp);simpa using this
  have hx:=q_ (bytes_eq (ext_to s n));have hB1:Below w.heap.size w w1:=((((Below.refl _ w).alloc (n_) (.cells zw 137)).alloc (by simp) (.cells #[.int .i64 5,.string (s.extract 0 n),.int .i64 0,.string ⟨#[]⟩,.int .i64 0,.int .i64 0,.int .i64 0,.int .i64 0,.int .i64 0,.int .i64 0,.int .i64 0] 137))).trans (hb1.mono (by simp;omega));have hfar:=hg0.far (p:=⟨w.heap.size+1,1,none⟩) (by simp) (.string (s.extract 0 n));have hr:=q_ (wrote11 (w:=w) hfar (hB1.setCell (p:=⟨w.heap.size+1,1,none⟩) (by simp) (.string (s.extract 0 n))) (n_) (.int .i64 5) (.string (s.extract 0 n)) (.int .i64 0) (.string ⟨#[]⟩) (.int .i64 0) (.int .i64 0) (.int .i64 0) (.int .i64 0) (.int .i64 0) (.int .i64 0) (.int .i64 0));have p0:w1.cell? ⟨w.heap.size+1,0,none⟩=some (.int .i64 5):=hg1.cell 0;have p1:w1.cell? ⟨w.heap.size+1,1,none⟩=some (.string (s.extract 0 n)):=hg1.cell 1;have p2:w1.cell? ⟨w.heap.size+1,2,none⟩=some (.int .i64 0):=hg1.cell 2;have p3:w1.cell? ⟨w.heap.size+1,3,none⟩=some (.string ⟨#[]⟩):=hg1.cell 3;have p4:w1.cell? ⟨w.heap.size+1,4,none⟩=some (.int .i64 0):=hg1.cell 4;have p5:w1.cell? ⟨w.heap.size+1,5,none⟩=some (.int .i64 0):=hg1.cell 5
  have p6:w1.cell? ⟨w.heap.size+1,6,none⟩=some (.int .i64 0):=hg1.cell 6;have p7:w1.cell? ⟨w.heap.size+1,7,none⟩=some (.int .i64 0):=hg1.cell 7;have p8:w1.cell? ⟨w.heap.size+1,8,none⟩=some (.int .i64 0):=hg1.cell 8;have p9:w1.cell? ⟨w.heap.size+1,9,none⟩=some (.int .i64 0):=hg1.cell 9;have p10:w1.cell? ⟨w.heap.size+1,10,none⟩=some (.int .i64 0):=hg1.cell 10;have f1:=hg1.frozen 1;have r0:=hg0.cell;have q0:=hg0.frozen;clear hfar hB1 hb1 hg0 hg1;go_wp2_with fail;refine bodyPost_ret (word_res hr.o.1 rfl rfl rfl rfl) rfl ⟨?_,hr.o.2⟩;rw[hx.o];exact WordOut.good HF2.o ⟨_,⟨⟨⟨#[]⟩,0,0,0,0,0,rfl⟩,fun h=>by simp at h⟩,rfl⟩
end
section
open Go Go.RowKit Go.BigFrame Go.Maps Go.WideMaps
theorem val_held:Tryz.prog.stoodInHeld 37=false:=by kernel_rfl
theorem val_fields:∃g0 g1 g2 g3:Field,Tryz.prog.underlying 37=some (.struct #[g0,g1,g2,g3])/\(g0.type=3/\g0.offset=0/\(g0.name≠ "_"))/\(g1.type=9/\g1.offset=1/\(g1.name≠ "_"))/\(g2.type=3/\g2.offset=2/\(g2.name≠ "_"))/\(g3.type=4/\g3.offset=3/\(g3.name≠ "_")):=
 ⟨_,_,_,_,Tryz.underlying37,⟨rfl,rfl,by decide⟩,⟨rfl,rfl,by decide⟩,⟨rfl,rfl,by decide⟩,⟨rfl,rfl,by decide⟩⟩
theorem equal_val(x y:M.Val)(W:World):(Op.equalIn 10000 37 (.agg #[.int .i64 x.kind,.string x.text,.int .i64 x.num,.bool x.truth]) (.agg #[.int .i64 y.kind,.string y.text,.int .i64 y.num,.bool y.truth])).run Tryz.prog W= .ok (M.eqV x y) W:=by
 obtain⟨g0,g1,g2,g3,hu,⟨t0,o0,n0⟩,⟨t1,o1,n1⟩,⟨t2,o2,n2⟩,⟨t3,o3,n3⟩⟩:=val_fields;have hf:Tryz.prog.fieldsOf 37=#[g0,g1,g2,g3]:=by simp[Program.fieldsOf,hu]
 obtain⟨k,s,n,b⟩:=x;obtain⟨k',s',n',b'⟩:=y;rw[run_equalIn_struct W 9999 _ _ _ (by rw[hu,hf]) val_held,hf];have hq:=eqT_text s s';unfold M.eqV;by_cases h0:k=k';rotate_left
 ·simp[Op.eqFields,n0,t0,o0,go_sem,h0]
 cases hs:M.eqT s s'
 ·rw[hs] at hq
  simp[Op.eqFields,n0,n1,t0,t1,o0,o1,go_sem,h0,hq]
 rw[hs] at hq;by_cases h2:n=n';rotate_left
 ·simp[Op.eqFields,n0,n1,n2,t0,t1,t2,o0,o1,o2,go_sem,hq,h0,h2]
 by_cases h3:b=b'
 ·simp[Op.eqFields,n0,n1,n2,n3,t0,t1,t2,t3,o0,o1,o2,o3,go_sem,hq,h0,h2,h3]
 ·simp[Op.eqFields,n0,n1,n2,n3,t0,t1,t2,t3,o0,o1,o2,o3,go_sem,hq,h0,h2,h3]
theorem eq_val(x y:M.Val)(W:World):(binOp .eql 37 (.agg #[.int .i64 x.kind,.string x.text,.int .i64 x.num,.bool x.truth]) (.agg #[.int .i64 y.kind,.string y.text,.int .i64 y.num,.bool y.truth])).run Tryz.prog W= .ok (.bool (M.eqV x y)) W:=by
 have h:=equal_val x y W;rw[run_eql_struct,h];rfl
theorem neq_val(x y:M.Val)(W:World):(binOp .neq 37 (.agg #[.int .i64 x.kind,.string x.text,.int .i64 x.num,.bool x.truth]) (.agg #[.int .i64 y.kind,.string y.text,.int .i64 y.num,.bool y.truth])).run Tryz.prog W= .ok (.bool (!M.eqV x y)) W:=by
 have h:=equal_val x y W;rw[run_neq_struct,h];rfl
theorem two_any(op:Int)(a b:M.Val)(ha:VOk a)(hb:VOk b)(w:World):Calls Tryz.prog 96 #[.int .i64 op,.agg #[.int .i64 a.kind,.string a.text,.int .i64 a.num,.bool a.truth],.agg #[.int .i64 b.kind,.string b.text,.int .i64 b.num,.bool b.truth]] w fun e w'=>e=valE (M.twoV op a b)/\Below w.heap.size w w':=by
 have s1:((w.alloc (.cells #[.int .i64 a.kind,.string a.text,.int .i64 a.num,.bool a.truth] 37)).alloc (.cells #[.int .i64 b.kind,.string b.text,.int .i64 b.num,.bool b.truth] 37)).heap.size=w.heap.size+2:=by simp
 have s2:(w.alloc (.cells #[.int .i64 a.kind,.string a.text,.int .i64 a.num,.bool a.truth] 37)).heap.size=w.heap.size+1:=by simp
 have A1:=q_ (((Blk.new w 37 #[.int .i64 a.kind,.string a.text,.int .i64 a.num,.bool a.truth]).alloc (.cells #[.int .i64 b.kind,.string b.text,.int .i64 b.num,.bool b.truth] 37)).alloc (.cells #[.int .i64 0,.string ⟨#[]⟩,.int .i64 0,.bool false] 37));have C1:=q_ (s2▸(Blk.new (w.alloc (.cells #[.int .i64 a.kind,.string a.text,.int .i64 a.num,.bool a.truth] 37)) 37 #[.int .i64 b.kind,.string b.text,.int .i64 b.num,.bool b.truth]).alloc (.cells #[.int .i64 0,.string ⟨#[]⟩,.int .i64 0,.bool false] 37));have B1:=q_ ((((Below.refl _ w).alloc (n_) (.cells #[.int .i64 a.kind,.string a.text,.int .i64 a.num,.bool a.truth] 37)).alloc (by simp) (.cells #[.int .i64 b.kind,.string b.text,.int .i64 b.num,.bool b.truth] 37)).alloc (by simp;omega) (.cells #[.int .i64 0,.string ⟨#[]⟩,.int .i64 0,.bool false] 37));have K1:=q_ (Blk.new ((w.alloc (.cells #[.int .i64 a.kind,.string a.text,.int .i64 a.num,.bool a.truth] 37)).alloc (.cells #[.int .i64 b.kind,.string b.text,.int .i64 b.num,.bool b.truth] 37)) 37 #[.int .i64 0,.string ⟨#[]⟩,.int .i64 0,.bool false]);rw[s1] at K1;have te:=eq_val a b;have tn:=neq_val a b;have KO:=q_ (fun W=>order_any a b ha hb W)
 have KP:=q_ (fun W=>plus_any a b ha hb W);clear ha hb;by_cases h:op=15
 ·have HS:=q_ (show M.twoV op a b= .ok (M.vTruth (M.eqV a b)) by unfold M.twoV;rw[if_pos h])
  have q15:(op==15)=true:=by simp[h]
  clear h;go_enter Tryz.func96,Tryz.ntmps96;go_wp2_with fail;refine(ofTruth_any _ _).mono ?_
  rintro e w2 ⟨rfl,hb⟩;have B2:=q_ (B1.o.trans (hb.mono B1.o.size));have K2:=q_ (K1.o.below hb K1.o.lt);clear hb;go_wp2_with (refine wpList_store_V rfl (.tmp 6) (.tmp 13) rfl (w.heap.size+2) (M.vTruth (M.eqV a b)) (by rfl) (by rfl) (K2.o) rfl ?_;intro w3 k3 g3;have K3:=q_ k3;have B3:=q_ (below_gr B2.o g3 (by omega));clear k3 g3)
  (try simp only[Exit.inBlock,Exit.then]);exact bodyPost_ret (val_res rfl K3.o rfl) rfl ⟨by rw[HS.o];rfl,B3.o⟩
 have h15:=h;clear h;by_cases h:op=16
 ·have HS:=q_ (show M.twoV op a b= .ok (M.vTruth (!M.eqV a b)) by unfold M.twoV;rw[if_neg (by omega),if_pos h])
  have q15:(op==15)=false:=by simp;omega
  have q16:(op==16)=true:=by simp[h]
  clear h;go_enter Tryz.func96,Tryz.ntmps96;go_wp2_with fail;refine(ofTruth_any _ _).mono ?_
  rintro e w2 ⟨rfl,hb⟩;have B2:=q_ (B1.o.trans (hb.mono B1.o.size));have K2:=q_ (K1.o.below hb K1.o.lt);clear hb;go_wp2_with (refine wpList_store_V rfl (.tmp 6) (.tmp 19) rfl (w.heap.size+2) (M.vTruth (!M.eqV a b)) (by rfl) (by rfl) (K2.o) rfl ?_;intro w3 k3 g3;have K3:=q_ k3;have B3:=q_ (below_gr B2.o g3 (by omega));clear k3 g3)
  (try simp only[Exit.inBlock,Exit.then]);exact bodyPost_ret (val_res rfl K3.o rfl) rfl ⟨by rw[HS.o];rfl,B3.o⟩
 have h16:=h;clear h;by_cases h:op=17
 ·have HS:=q_ (show M.twoV op a b= .ok (M.vTruth (decide (M.order a b<0))) by unfold M.twoV;rw[if_neg (by omega),if_neg (by omega),if_pos h])
  have q15:(op==15)=false:=by simp;omega
  have q16:(op==16)=false:=by simp;omega
  have q17:(op==17)=true:=by simp[h]
  clear h;go_enter Tryz.func96,Tryz.ntmps96;go_wp2_with fail;refine(KO.o _).mono ?_
  rintro e w1 ⟨rfl,hb⟩;have B1':=q_ (B1.o.trans (hb.mono B1.o.size));have K1':=q_ (K1.o.below hb K1.o.lt);clear hb;go_wp2_with fail;refine(ofTruth_any _ _).mono ?_
  rintro e w2 ⟨rfl,hb⟩;have B2:=q_ (B1'.o.trans (hb.mono B1'.o.size));have K2:=q_ (K1'.o.below hb K1'.o.lt);clear hb;go_wp2_with (refine wpList_store_V rfl (.tmp 6) (.tmp 26) rfl (w.heap.size+2) (M.vTruth (decide (M.order a b<0))) (by rfl) (by rfl) (K2.o) rfl ?_;intro w3 k3 g3;have K3:=q_ k3;have B3:=q_ (below_gr B2.o g3 (by omega));clear k3 g3)
  (try simp only[Exit.inBlock,Exit.then]);exact bodyPost_ret (val_res rfl K3.o rfl) rfl ⟨by rw[HS.o];rfl,B3.o⟩
 have h17:=h;clear h;by_cases h:op=18
 ·have HS:=q_ (show M.twoV op a b= .ok (M.vTruth (decide (M.order a b<=0))) by unfold M.twoV;rw[if_neg (by omega),if_neg (by omega),if_neg (by omega),if_pos h])
  have q15:(op==15)=false:=by simp;omega
  have q16:(op==16)=false:=by simp;omega
  have q17:(op==17)=false:=by simp;omega
  have q18:(op==18)=true:=by simp[h]
  clear h;go_enter Tryz.func96,Tryz.ntmps96;go_wp2_with fail;refine(KO.o _).mono ?_
  rintro e w1 ⟨rfl,hb⟩;have B1':=q_ (B1.o.trans (hb.mono B1.o.size));have K1':=q_ (K1.o.below hb K1.o.lt);clear hb;go_wp2_with fail;refine(ofTruth_any _ _).mono ?_
  rintro e w2 ⟨rfl,hb⟩;have B2:=q_ (B1'.o.trans (hb.mono B1'.o.size));have K2:=q_ (K1'.o.below hb K1'.o.lt);clear hb;go_wp2_with (refine wpList_store_V rfl (.tmp 6) (.tmp 33) rfl (w.heap.size+2) (M.vTruth (decide (M.order a b<=0))) (by rfl) (by rfl) (K2.o) rfl ?_;intro w3 k3 g3;have K3:=q_ k3;have B3:=q_ (below_gr B2.o g3 (by omega));clear k3 g3)
  (try simp only[Exit.inBlock,Exit.then]);exact bodyPost_ret (val_res rfl K3.o rfl) rfl ⟨by rw[HS.o];rfl,B3.o⟩
 have h18:=h;clear h;by_cases h:op=19
 ·have HS:=q_ (show M.twoV op a b= .ok (M.vTruth (decide (0<M.order a b))) by unfold M.twoV;rw[if_neg (by omega),if_neg (by omega),if_neg (by omega),if_neg (by omega),if_pos h])
  have q15:(op==15)=false:=by simp;omega
  have q16:(op==16)=false:=by simp;omega
  have q17:(op==17)=false:=by simp;omega
  have q18:(op==18)=false:=by simp;omega
  have q19:(op==19)=true:=by simp[h]
  clear h;go_enter Tryz.func96,Tryz.ntmps96;go_wp2_with fail;refine(KO.o _).mono ?_
  rintro e w1 ⟨rfl,hb⟩;have B1':=q_ (B1.o.trans (hb.mono B1.o.size));have K1':=q_ (K1.o.below hb K1.o.lt);clear hb;go_wp2_with fail;refine(ofTruth_any _ _).mono ?_
  rintro e w2 ⟨rfl,hb⟩;have B2:=q_ (B1'.o.trans (hb.mono B1'.o.size));have K2:=q_ (K1'.o.below hb K1'.o.lt);clear hb;go_wp2_with (refine wpList_store_V rfl (.tmp 6) (.tmp 40) rfl (w.heap.size+2) (M.vTruth (decide (0<M.order a b))) (by rfl) (by rfl) (K2.o) rfl ?_;intro w3 k3 g3;have K3:=q_ k3;have B3:=q_ (below_gr B2.o g3 (by omega));clear k3 g3)
  (try simp only[Exit.inBlock,Exit.then]);exact bodyPost_ret (val_res rfl K3.o rfl) rfl ⟨by rw[HS.o];rfl,B3.o⟩
 have h19:=h;clear h;by_cases h:op=20
 ·have HS:=q_ (show M.twoV op a b= .ok (M.vTruth (decide (0<=M.order a b))) by unfold M.twoV;rw[if_neg (by omega),if_neg (by omega),if_neg (by omega),if_neg (by omega),if_neg (by omega),if_pos h])
  have q15:(op==15)=false:=by simp;omega
  have q16:(op==16)=false:=by simp;omega
  have q17:(op==17)=false:=by simp;omega
  have q18:(op==18)=false:=by simp;omega
  have q19:(op==19)=false:=by simp;omega
  have q20:(op==20)=true:=by simp[h]
  clear h;go_enter Tryz.func96,Tryz.ntmps96;go_wp2_with fail;refine(KO.o _).mono ?_
  rintro e w1 ⟨rfl,hb⟩;have B1':=q_ (B1.o.trans (hb.mono B1.o.size));have K1':=q_ (K1.o.below hb K1.o.lt);clear hb;go_wp2_with fail;refine(ofTruth_any _ _).mono ?_
  rintro e w2 ⟨rfl,hb⟩;have B2:=q_ (B1'.o.trans (hb.mono B1'.o.size));have K2:=q_ (K1'.o.below hb K1'.o.lt);clear hb;go_wp2_with (refine wpList_store_V rfl (.tmp 6) (.tmp 47) rfl (w.heap.size+2) (M.vTruth (decide (0<=M.order a b))) (by rfl) (by rfl) (K2.o) rfl ?_;intro w3 k3 g3;have K3:=q_ k3;have B3:=q_ (below_gr B2.o g3 (by omega));clear k3 g3)
  (try simp only[Exit.inBlock,Exit.then]);exact bodyPost_ret (val_res rfl K3.o rfl) rfl ⟨by rw[HS.o];rfl,B3.o⟩
 have h20:=h;clear h;have HS:=q_ (show M.twoV op a b=M.plusV a b by unfold M.twoV;rw[if_neg h15,if_neg h16,if_neg h17,if_neg h18,if_neg h19,if_neg h20]);have q15:(op==15)=false:=by simp;omega
 have q16:(op==16)=false:=by simp;omega
 have q17:(op==17)=false:=by simp;omega
 have q18:(op==18)=false:=by simp;omega
 have q19:(op==19)=false:=by simp;omega
 have q20:(op==20)=false:=by simp;omega
 clear h15 h16 h17 h18 h19 h20;go_enter Tryz.func96,Tryz.ntmps96;go_wp2_with fail;refine(KP.o _).mono ?_
 rintro e w2 ⟨he,hb⟩;have B2:=q_ (B1.o.trans (hb.mono B1.o.size));have K2:=q_ (K1.o.below hb K1.o.lt);have ES:=q_ he;clear hb he;cases hr:M.plusV a b with
 |error k=>
  rw[hr] at ES HS;obtain rfl:=ES.o;clear hr;unfold valE panE;go_wp2;exact⟨rfl,by rw[HS.o];rfl,B2.o⟩
 |ok v=>
  rw[hr] at ES HS;obtain rfl:=ES.o;clear hr;unfold valE;go_wp2_with (refine wpList_store_V rfl (.tmp 6) (.tmp 50) rfl (w.heap.size+2) (v) (by rfl) (by rfl) (K2.o) rfl ?_;intro w3 k3 g3;have K3:=q_ k3;have B3:=q_ (below_gr B2.o g3 (by omega));clear k3 g3)
  (try simp only[Exit.inBlock,Exit.then]);exact bodyPost_ret (val_res rfl K3.o rfl) rfl ⟨by rw[HS.o];rfl,B3.o⟩
end
end Go.Proofs.YtnocnbklhikmnaaGreatDoor
