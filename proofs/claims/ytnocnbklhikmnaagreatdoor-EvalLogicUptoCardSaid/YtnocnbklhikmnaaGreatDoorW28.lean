/- Part 28 of the proof. -/
import Derived.Test.YtnocnbklhikmnaaGreatDoorW18
import Derived.Test.YtnocnbklhikmnaaGreatDoorW20
import Derived.Test.YtnocnbklhikmnaaGreatDoorW25
import Derived.Test.YtnocnbklhikmnaaGreatDoorW27
import Derived.RegionTactic
set_option linter.unusedVariables false
set_option maxRecDepth 1000000
set_option maxHeartbeats 16000000
namespace Go.Proofs.YtnocnbklhikmnaaGreatDoor.Rk
open Go
def plainFuncs(P:Program):Bool:=P.funcs.all fun fn=>fn.body.isNone||fn.name != "runtime.NumGoroutine"
theorem enters{P:Program}(hP:plainFuncs P=true){f:FuncId}{fn:Func}{c:Code}(hf:P.funcs[f]? =some fn)(hb:fn.body=some c)(vs:Array Value)(w:World):(callFunc f vs).run P w= .ok (.enter f vs) w:=by
 have h:=Array.all_eq_true.1 hP f (Array.getElem?_eq_some_iff.1 hf).1;have e:P.funcs[f]'(Array.getElem?_eq_some_iff.1 hf).1=fn:=(Array.getElem?_eq_some_iff.1 hf).2;rw[e,hb] at h
 have h2:(fn.name== "runtime.NumGoroutine")=false:=by
  simp only[Option.isNone_some,Bool.false_or,bne_iff_ne,ne_eq] at h;simpa using h
 unfold callFunc;simp only[Sem.run_bind];have hprog:(program).run P w= .ok P w:=rfl;rw[hprog];simp only[Result.andThen_ok,hf,h2,hb,Option.isNone_some,Bool.false_eq_true,if_false,Sem.run_pure]
def TSound(P:Program)(O:Told):Prop:=∀f g,O f=some g->∀args s v s',g args s=some (v,s')->WfS s->Mono s s'/\∀(ρ:Env) (T:Nat->Nat->Prop) (w:World) (vs:Array Value),Pre ρ T s s' w->VRL ρ args vs.toList->
 (∀w1,(callFunc f vs).run P w1= .ok (.enter f vs) w1)/\∀n,CallsIn Fence.wide n P f vs w (fun e w'=>∃ρ',Post ρ T s w ρ' s' w'/\ResR ρ' (.ret v) e)
section
variable {P:Program} {D:DCallee} {C:Callee}
theorem body_ok(hP:plainFuncs P=true)(hm:P.follows .mixedOrders=true)(hC:CSound P C)(hD:DSound P D)(fuel:Nat):CSound P (body P C D fuel):=by
 intro f args s res s' h hwf;unfold body at h;split at h
 ·rename_i fn hf
  split at h
  ·rename_i c hb
   split at h
   ·rename_i hlen
    split at h
    ·rename_i e aa1 s1 hev
     split at h
     ·rename_i p hend
      have hw0:WfS {s with log:=[]}:=hwf;obtain⟨m1,k1⟩:=(ev_ok hm hC fuel).1 false _ _ _ _ _ _ hev hw0
      have main:∀(p':Option AV) (s2 q:St),runDefs D aa1.defs p s1=some (p',s2)->Mono s2 q->s'=s.cut q->
       (∀(ρ:Env) (T:Nat->Nat->Prop) (w:World) (a:Act) (u:FrameMode) (n:Nat) (R:Ending->World->Prop),Pre ρ T s2 q w->ActR ρ aa1 a->DM ρ p' u->(∀ρ' w' e,Post ρ T s2 w ρ' q w'->ResR ρ' res e->R e w')->LeavesIn Fence.wide n P fn a.tmps R [] u w)->
       Mono s s'/\∀(ρ:Env) (T:Nat->Nat->Prop) (w:World) (vs:Array Value),Pre ρ T s s' w->VRL ρ args vs.toList->
        (∀w1,(callFunc f vs).run P w1= .ok (.enter f vs) w1)/\∀n,CallsIn Fence.wide n P f vs w (fun e w'=>∃ρ',Post ρ T s w ρ' s' w'/\ResR ρ' res e):=by
       intro p' s2 q hrd m3 hs' hfin;subst hs';have m2:=runDefs_mono hD hrd (m1.wf hw0);have mall:=m1.trans (m2.trans m3);refine⟨mall.cut hwf,fun ρ T w vs hp hargs=>⟨fun w1=>enters hP hf hb vs w1,fun n=> ?_⟩⟩;have hp0:=hp.cut mall;refine callsIn_of_wp_marks hf hb trivial ?_;refine wpIn_mono (k1 ρ T w _ none n (fun _=>rfl) (hp0.first (m2.trans m3)) (start_ok hargs hlen)) ?_;rintro E a1 w1 ⟨ρ1,g1,g2,g3⟩;have hp1:=hp0.next m1 (m2.trans m3) g1
       have fin:∀u,DM ρ1 p u->LeavesInM Fence.wide n P fn a1.tmps (fun e w'=>∃ρ',Post ρ T s w ρ' (s.cut q) w'/\ResR ρ' res e) a1.defers u w1:=by
        intro u hu;refine runDefs_ok hD hrd (hp1.first m3) g2.defs hu (fun ρ2 w2 u2 h2 hu2=> ?_);refine hfin ρ2 _ w2 a1 u2 n _ (hp1.next m2 m3 h2) (g2.mono h2.ext) hu2 (fun ρ3 w3 e3 h3 hr3=> ?_);exact⟨ρ3,Post.cut mall hp (Post.trans m1 (m2.trans m3) g1 (Post.trans m2 m3 h2 h3)),hr3⟩
       cases e<;>cases E<;>simp only[ExR] at g3<;>simp only[endOf,Option.some.injEq,reduceCtorEq] at hend
       ·subst hend;exact fin .returning trivial
       ·subst hend;exact fin .returning trivial
       ·subst hend;exact fin _ g3
      split at h
      ·rename_i s2 hrd
       split at h
       ·rename_i vs s3 hres
        cases h;refine main none s2 s3 hrd (resA_mono hres) rfl (fun ρ T w a u n R hp ha hu hk=> ?_);cases u with
        |run=>exact hu.elim
        |panicking ch=>exact hu.elim
        |returning=>
        obtain⟨v,g1,g2,g3⟩:=results_ok hres hp ha;exact⟨v,g1,hk ρ w _ g3 g2⟩
       ·cases h
      ·rename_i v s2 hrd
       cases h;refine main (some v) s2 s2 hrd (Mono.refl _) rfl (fun ρ T w a u n R hp ha hu hk=> ?_);cases u with
       |run=>exact hu.elim
       |returning=>exact hu.elim
       |panicking ch=>exact hk ρ w _ (Post.refl hp) hu
      ·cases h
     ·cases h
    ·cases h
   ·cases h
  ·cases h
 ·cases h
theorem call_ok{O:Told}(hP:plainFuncs P=true)(hm:P.follows .mixedOrders=true)(hO:TSound P O)(hD:DSound P D)(fuel:Nat):∀d,CSound P (call P O D fuel d)
 |0=>fun f args s res s' h=>by simp[call] at h
 |d+1=>fun f args s res s' h hwf=>by
  unfold call at h;split at h
  ·rename_i g hg
   split at h
   ·rename_i v s1 h1
    cases h;exact hO f g hg _ _ _ _ h1 hwf
   ·exact body_ok hP hm (call_ok hP hm hO hD fuel d) hD fuel f args s res s' h hwf
  ·exact body_ok hP hm (call_ok hP hm hO hD fuel d) hD fuel f args s res s' h hwf
end
end Go.Proofs.YtnocnbklhikmnaaGreatDoor.Rk
namespace Go.Proofs.YtnocnbklhikmnaaGreatDoor
variable{W:World}{g:Nat}{s:ByteArray}{w:World}
section
open Go Go.RowKit Go.BigFrame
def TokP(t:Ad.Tok)(p:List Value):Prop:=PathC p/\(t.kind=4->p=pathCs t.text)
def WV(t:Ad.Tok)(cs:List Value):Prop:=∃p,TokP t p/\cs=[.int .i64 t.kind,.string ⟨t.text.toArray⟩,.int .i64 t.num]++p++[.int .i64 0,.int .i64 0]
abbrev zw:Array Value:=#[.int .i64 0,.string ⟨#[]⟩,.int .i64 0,.string ⟨#[]⟩,.int .i64 0,.int .i64 0,.int .i64 0,.int .i64 0,.int .i64 0,.int .i64 0,.int .i64 0]
namespace Ad
def wordX(s:Bs):Except Int (Tok×Nat):=
 match s with
 |[]=> .error 80
 |c::r=>
  if letter c=true then(if 32<run nameC s then .error 2 else .ok (⟨1,s.take (run nameC s),0⟩,run nameC s))
  else if digit c=true then(if P.numOk (s.take (run digit s))=true then .ok (⟨2,s.take (run digit s),P.numV (s.take (run digit s))⟩,run digit s) else .error 80)
  else if c.toNat=34 then(match text r with
   |none=> .error 80
   |some (v,n)=>if 4096<v.length then .error 2 else .ok (⟨3,v,0⟩,n+1))
  else if c.toNat=64 then(if pathOk (r.take (run pathC r))=true then .ok (⟨4,r.take (run pathC r),0⟩,1+run pathC r) else .error 80)
  else if signN s=0 then .error 80 else .ok (⟨5,s.take (signN s),0⟩,signN s)
end Ad
def WordOut(s:ByteArray)(e:Ending):Prop:=
 match Ad.wordX s.data.toList with
 | .error er=>e= .returned (.tuple #[.agg zw,.int .i64 0,.int .i64 er])
 | .ok x=>∃cs,WV x.1 cs/\e= .returned (.tuple #[.agg cs.toArray,.int .i64 (x.2:Nat),.int .i64 0])
theorem WordOut.bad{er:Int}(h:Ad.wordX s.data.toList= .error er):WordOut s (.returned (.tuple #[.agg zw,.int .i64 0,.int .i64 er])):=by
 unfold WordOut;rw[h]
theorem WordOut.good{t:Ad.Tok}{n:Nat}{cs:List Value}(h:Ad.wordX s.data.toList= .ok (t,n))(hv:WV t cs):WordOut s (.returned (.tuple #[.agg cs.toArray,.int .i64 (n:Nat),.int .i64 0])):=by
 unfold WordOut;rw[h];exact⟨cs,hv,rfl⟩
theorem word_res{tmps:Array Value}{v3 v4:Value}{cs:Array Value}(hW:Blk W g 137 cs)(hl:cs.size=11)(h2:tmps.getD 2 undef= .pointer (some ⟨g,0,none⟩))(h3:tmps.getD 3 undef=v3)(h4:tmps.getD 4 undef=v4):
 (results Tryz.f127 tmps).run Tryz.prog W= .ok (.tuple #[.agg cs,v3,v4]) W:=by
 rw[results_cell_tmp2 rfl,h2,h3,h4];have hi:(Tryz.prog.info? 137).map (·.size)=some cs.size:=by rw[hl];kernel_rfl
 have h:=run_loadVar_row (P:=Tryz.prog) W g 137 137 cs (0,0) _ hW Tryz.underlying137 rfl hi;simp only[asAddr,Sem.run_pure,Result.andThen_ok,h]
theorem wrote11{t:TypeId}(h:Blk W g t zw)(hb:Below w.heap.size w W)(hg:w.heap.size<=g)(a b c d e f i j k l m:Value):
 Blk (((((((((((W.setCell ⟨g,0,none⟩ a).setCell ⟨g,1,none⟩ b).setCell ⟨g,2,none⟩ c).setCell ⟨g,3,none⟩ d).setCell ⟨g,4,none⟩ e).setCell ⟨g,5,none⟩ f).setCell ⟨g,6,none⟩ i).setCell ⟨g,7,none⟩ j).setCell ⟨g,8,none⟩ k).setCell ⟨g,9,none⟩ l).setCell ⟨g,10,none⟩ m) g t #[a,b,c,d,e,f,i,j,k,l,m]/\
 Below w.heap.size w (((((((((((W.setCell ⟨g,0,none⟩ a).setCell ⟨g,1,none⟩ b).setCell ⟨g,2,none⟩ c).setCell ⟨g,3,none⟩ d).setCell ⟨g,4,none⟩ e).setCell ⟨g,5,none⟩ f).setCell ⟨g,6,none⟩ i).setCell ⟨g,7,none⟩ j).setCell ⟨g,8,none⟩ k).setCell ⟨g,9,none⟩ l).setCell ⟨g,10,none⟩ m):=by
 constructor
 ·have hx:=((((((((((h.set_ 0 a).set_ 1 b).set_ 2 c).set_ 3 d).set_ 4 e).set_ 5 f).set_ 6 i).set_ 7 j).set_ 8 k).set_ 9 l).set_ 10 m
  simp only[List.setIfInBounds_toArray,List.set_cons_zero,List.set_cons_succ] at hx;exact hx
 ·exact((((((((((hb.setCell hg a).setCell hg b).setCell hg c).setCell hg d).setCell hg e).setCell hg f).setCell hg i).setCell hg j).setCell hg k).setCell hg l).setCell hg m
theorem bytes_eq{l:List UInt8}(h:s.data.toList=l):s=⟨l.toArray⟩:=by
 subst h;cases s;simp
theorem word_name(s:ByteArray)(w:World)(hs:s.size<=100000)(h0:0<s.size)(hl:Ad.letter s[0]=true):
 Calls Tryz.prog 127 #[.string s] w fun e w'=>WordOut s e/\Below w.heap.size w w':=by
 have hi1:∀W:World,(Instr.index 9 (.string s) (.int .i64 0)).run Tryz.prog W= .ok (.int .u8 (s[0].toNat:Int)) W:=fun W=>idx_atu s 0 (by omega) rfl W;have hc:=s[0].toNat_lt
 obtain⟨r,hd⟩:∃r,s.data.toList=s[0]::r:=⟨s.data.toList.drop 1,by
  have:=List.drop_eq_getElem_cons (l:=s.data.toList) (i:=0) (by simpa using h0);rw[List.drop_zero] at this;exact this⟩
 have HF:=q_ (show Ad.wordX s.data.toList=if 32<Ad.run Ad.nameC s.data.toList then .error 2 else .ok (⟨1,s.data.toList.take (Ad.run Ad.nameC s.data.toList),0⟩,Ad.run Ad.nameC s.data.toList) from by
  generalize s.data.toList=L at*;subst hd;unfold Ad.wordX;simp only[hl,if_true])
 generalize s[0]=c at*
 have K1:=q_ (show∀W:World,Calls Tryz.prog 212 #[.int .u8 (c.toNat:Int)] W fun e w'=>e= .returned (.bool true)/\w'=W from fun W=>by
  have:=letter_any c W
  rwa [hl] at this)
 have hle:Ad.run Ad.nameC s.data.toList<=s.size:=by have:=Ad.run_le Ad.nameC s.data.toList;rwa [len_size] at this
 have K2:∀W:World,_:=fun W=>runName_any s W (by omega);generalize Ad.run Ad.nameC s.data.toList=n at*;have K2:=q_ K2;clear hd hl;by_cases hn:32<n
 ·have HF2:=q_ (HF.o.trans (if_pos hn))
  have hr:=q_ (wrote11 (w:=w) (W:=(w.alloc (.cells zw 137)).alloc (.cells zw 137)) (g:=w.heap.size) ((Blk.new w _ _).alloc _) (((Below.refl _ w).alloc (n_) _).alloc (by simp) _) (n_) (.int .i64 0) (.string ⟨#[]⟩) (.int .i64 0) (.string ⟨#[]⟩) (.int .i64 0) (.int .i64 0) (.int .i64 0) (.int .i64 0) (.int .i64 0) (.int .i64 0) (.int .i64 0));go_enter Tryz.func127,Tryz.ntmps127;go_wp2_with (first|(go_at_call 212;refine(K1.o _).mono ?_;rintro e w' ⟨rfl,rfl⟩)|(go_at_call 213;refine(K2.o _).mono ?_;rintro e w' ⟨rfl,rfl⟩));refine bodyPost_ret (word_res ((Blk.new w _ _).alloc _) rfl rfl rfl rfl) rfl ⟨WordOut.bad HF2.o,((Below.refl _ w).alloc (n_) _).alloc (by simp) _⟩
 ·have HF2:=q_ (HF.o.trans (if_neg hn))
  have K3:=q_ (sclone_any (s.extract 0 n) ((w.alloc (.cells zw 137)).alloc (.cells #[.int .i64 1,.string (s.extract 0 n),.int .i64 0,.string ⟨#[]⟩,.int .i64 0,.int .i64 0,.int .i64 0,.int .i64 0,.int .i64 0,.int .i64 0,.int .i64 0] 137)) (by rw[ByteArray.size_extract];omega));go_enter Tryz.func127,Tryz.ntmps127;go_wp2_with (first|(go_at_call 212;refine(K1.o _).mono ?_;rintro e w' ⟨rfl,rfl⟩)|(go_at_call 213;refine(K2.o _).mono ?_;rintro e w' ⟨rfl,rfl⟩));refine K3.o.mono ?_;rintro e w1 ⟨rfl,hb1⟩;have hg0:=((Blk.new w 137 zw).alloc (.cells #[.int .i64 1,.string (s.extract 0 n),.int .i64 0,.string ⟨#[]⟩,.int .i64 0,.int .i64 0,.int .i64 0,.int .i64 0,.int .i64 0,.int .i64 0,.int .i64 0] 137)).below hb1 (by simp;omega)
  have hg1:Blk w1 (w.heap.size+1) 137 #[.int .i64 1,.string (s.extract 0 n),.int .i64 0,.string ⟨#[]⟩,.int .i64 0,.int .i64 0,.int .i64 0,.int .i64 0,.int .i64 0,.int .i64 0,.int .i64 0]:=by
   have:=(Blk.new (w.alloc (.cells zw 137)) 137 #[.int .i64 1,.string (s.extract 0 n),.int .i64 0,.string ⟨#[]⟩,.int .i64 0,.int .i64 0,.int .i64 0,.int .i64 0,.int .i64 0,.int .i64 0,.int .i64 0]).below hb1 (by simp);simpa using this
  have hx:=q_ (bytes_eq (ext_to s n));have hB1:Below w.heap.size w w1:=((((Below.refl _ w).alloc (n_) (.cells zw 137)).alloc (by simp) (.cells #[.int .i64 1,.string (s.extract 0 n),.int .i64 0,.string ⟨#[]⟩,.int .i64 0,.int .i64 0,.int .i64 0,.int .i64 0,.int .i64 0,.int .i64 0,.int .i64 0] 137))).trans (hb1.mono (by simp;omega));have hfar:=hg0.far (p:=⟨w.heap.size+1,1,none⟩) (by simp) (.string (s.extract 0 n));have hr:=q_ (wrote11 (w:=w) hfar (hB1.setCell (p:=⟨w.heap.size+1,1,none⟩) (by simp) (.string (s.extract 0 n))) (n_) (.int .i64 1) (.string (s.extract 0 n)) (.int .i64 0) (.string ⟨#[]⟩) (.int .i64 0) (.int .i64 0) (.int .i64 0) (.int .i64 0) (.int .i64 0) (.int .i64 0) (.int .i64 0));have p0:w1.cell? ⟨w.heap.size+1,0,none⟩=some (.int .i64 1):=hg1.cell 0;have p1:w1.cell? ⟨w.heap.size+1,1,none⟩=some (.string (s.extract 0 n)):=hg1.cell 1;have p2:w1.cell? ⟨w.heap.size+1,2,none⟩=some (.int .i64 0):=hg1.cell 2;have p3:w1.cell? ⟨w.heap.size+1,3,none⟩=some (.string ⟨#[]⟩):=hg1.cell 3;have p4:w1.cell? ⟨w.heap.size+1,4,none⟩=some (.int .i64 0):=hg1.cell 4;have p5:w1.cell? ⟨w.heap.size+1,5,none⟩=some (.int .i64 0):=hg1.cell 5
  have p6:w1.cell? ⟨w.heap.size+1,6,none⟩=some (.int .i64 0):=hg1.cell 6;have p7:w1.cell? ⟨w.heap.size+1,7,none⟩=some (.int .i64 0):=hg1.cell 7;have p8:w1.cell? ⟨w.heap.size+1,8,none⟩=some (.int .i64 0):=hg1.cell 8;have p9:w1.cell? ⟨w.heap.size+1,9,none⟩=some (.int .i64 0):=hg1.cell 9;have p10:w1.cell? ⟨w.heap.size+1,10,none⟩=some (.int .i64 0):=hg1.cell 10;have f1:=hg1.frozen 1;have r0:=hg0.cell;have q0:=hg0.frozen;clear hfar hB1 hb1 hg0 hg1;go_wp2_with fail;refine bodyPost_ret (word_res hr.o.1 rfl rfl rfl rfl) rfl ⟨?_,hr.o.2⟩;rw[hx.o];exact WordOut.good HF2.o ⟨_,⟨⟨⟨#[]⟩,0,0,0,0,0,rfl⟩,fun h=>by simp at h⟩,rfl⟩
theorem word_num(s:ByteArray)(w:World)(hs:s.size<=100000)(h0:0<s.size)(hl0:Ad.letter s[0]=false)(hl:Ad.digit s[0]=true):
 Calls Tryz.prog 127 #[.string s] w fun e w'=>WordOut s e/\Below w.heap.size w w':=by
 have hi1:∀W:World,(Instr.index 9 (.string s) (.int .i64 0)).run Tryz.prog W= .ok (.int .u8 (s[0].toNat:Int)) W:=fun W=>idx_atu s 0 (by omega) rfl W;have hc:=s[0].toNat_lt
 obtain⟨r,hd⟩:∃r,s.data.toList=s[0]::r:=⟨s.data.toList.drop 1,by
  have:=List.drop_eq_getElem_cons (l:=s.data.toList) (i:=0) (by simpa using h0);rw[List.drop_zero] at this;exact this⟩
 have HF:=q_ (show Ad.wordX s.data.toList=if P.numOk (s.data.toList.take (Ad.run Ad.digit s.data.toList))=true then .ok (⟨2,s.data.toList.take (Ad.run Ad.digit s.data.toList),P.numV (s.data.toList.take (Ad.run Ad.digit s.data.toList))⟩,Ad.run Ad.digit s.data.toList) else .error 80 from by
  generalize s.data.toList=L at*;subst hd;unfold Ad.wordX;simp only[hl0,hl,if_true,Bool.false_eq_true,if_false])
 generalize s[0]=c at*
 have K1:=q_ (show∀W:World,Calls Tryz.prog 212 #[.int .u8 (c.toNat:Int)] W fun e w'=>e= .returned (.bool false)/\w'=W from fun W=>by
  have:=letter_any c W
  rwa [hl0] at this)
 have K1d:=q_ (show∀W:World,Calls Tryz.prog 215 #[.int .u8 (c.toNat:Int)] W fun e w'=>e= .returned (.bool true)/\w'=W from fun W=>by
  have:=isDigit_any c W
  rwa [hl] at this)
 have hle:Ad.run Ad.digit s.data.toList<=s.size:=by have:=Ad.run_le Ad.digit s.data.toList;rwa [len_size] at this
 have K2:∀W:World,_:=fun W=>runDigit_any s W (by omega);generalize Ad.run Ad.digit s.data.toList=n at*;have K2:=q_ K2;have KN:=fun W=>number_any (s.extract 0 n) W (by rw[ByteArray.size_extract];unfold maxLen;omega);rw[ext_to s n] at KN;unfold P.numE at KN;have KN:=q_ KN;clear hd hl hl0;generalize hv:P.numV (s.data.toList.take n)=v at*;cases hn:P.numOk (s.data.toList.take n) with
 |false=>
  rw[hn] at KN HF;have HF2:=q_ (HF.o.trans (if_neg (by simp)));have hr:=q_ (wrote11 (w:=w) (W:=(w.alloc (.cells zw 137)).alloc (.cells zw 137)) (g:=w.heap.size) ((Blk.new w _ _).alloc _) (((Below.refl _ w).alloc (n_) _).alloc (by simp) _) (n_) (.int .i64 0) (.string ⟨#[]⟩) (.int .i64 0) (.string ⟨#[]⟩) (.int .i64 0) (.int .i64 0) (.int .i64 0) (.int .i64 0) (.int .i64 0) (.int .i64 0) (.int .i64 0));go_enter Tryz.func127,Tryz.ntmps127;go_wp2_with (first|(go_at_call 212;refine(K1.o _).mono ?_;rintro e w' ⟨rfl,rfl⟩)|(go_at_call 215;refine(K1d.o _).mono ?_;rintro e w' ⟨rfl,rfl⟩)|(go_at_call 159;refine(KN.o _).mono ?_;rintro e w' ⟨rfl,rfl⟩)|(go_at_call 213;refine(K2.o _).mono ?_;rintro e w' ⟨rfl,rfl⟩));refine bodyPost_ret (word_res ((Blk.new w _ _).alloc _) rfl rfl rfl rfl) rfl ⟨WordOut.bad HF2.o,((Below.refl _ w).alloc (n_) _).alloc (by simp) _⟩
 |true=>
  rw[hn] at KN HF;have HF2:=q_ (HF.o.trans (if_pos rfl));have K3:=q_ (sclone_any (s.extract 0 n) ((w.alloc (.cells zw 137)).alloc (.cells #[.int .i64 2,.string (s.extract 0 n),.int .i64 v,.string ⟨#[]⟩,.int .i64 0,.int .i64 0,.int .i64 0,.int .i64 0,.int .i64 0,.int .i64 0,.int .i64 0] 137)) (by rw[ByteArray.size_extract];omega));go_enter Tryz.func127,Tryz.ntmps127;go_wp2_with (first|(go_at_call 212;refine(K1.o _).mono ?_;rintro e w' ⟨rfl,rfl⟩)|(go_at_call 215;refine(K1d.o _).mono ?_;rintro e w' ⟨rfl,rfl⟩)|(go_at_call 159;refine(KN.o _).mono ?_;rintro e w' ⟨rfl,rfl⟩)|(go_at_call 213;refine(K2.o _).mono ?_;rintro e w' ⟨rfl,rfl⟩));refine K3.o.mono ?_;rintro e w1 ⟨rfl,hb1⟩;have hg0:=((Blk.new w 137 zw).alloc (.cells #[.int .i64 2,.string (s.extract 0 n),.int .i64 v,.string ⟨#[]⟩,.int .i64 0,.int .i64 0,.int .i64 0,.int .i64 0,.int .i64 0,.int .i64 0,.int .i64 0] 137)).below hb1 (by simp;omega)
  have hg1:Blk w1 (w.heap.size+1) 137 #[.int .i64 2,.string (s.extract 0 n),.int .i64 v,.string ⟨#[]⟩,.int .i64 0,.int .i64 0,.int .i64 0,.int .i64 0,.int .i64 0,.int .i64 0,.int .i64 0]:=by
   have:=(Blk.new (w.alloc (.cells zw 137)) 137 #[.int .i64 2,.string (s.extract 0 n),.int .i64 v,.string ⟨#[]⟩,.int .i64 0,.int .i64 0,.int .i64 0,.int .i64 0,.int .i64 0,.int .i64 0,.int .i64 0]).below hb1 (by simp);simpa using this
  have hx:=q_ (bytes_eq (ext_to s n));have hB1:Below w.heap.size w w1:=((((Below.refl _ w).alloc (n_) (.cells zw 137)).alloc (by simp) (.cells #[.int .i64 2,.string (s.extract 0 n),.int .i64 v,.string ⟨#[]⟩,.int .i64 0,.int .i64 0,.int .i64 0,.int .i64 0,.int .i64 0,.int .i64 0,.int .i64 0] 137))).trans (hb1.mono (by simp;omega));have hfar:=hg0.far (p:=⟨w.heap.size+1,1,none⟩) (by simp) (.string (s.extract 0 n));have hr:=q_ (wrote11 (w:=w) hfar (hB1.setCell (p:=⟨w.heap.size+1,1,none⟩) (by simp) (.string (s.extract 0 n))) (n_) (.int .i64 2) (.string (s.extract 0 n)) (.int .i64 v) (.string ⟨#[]⟩) (.int .i64 0) (.int .i64 0) (.int .i64 0) (.int .i64 0) (.int .i64 0) (.int .i64 0) (.int .i64 0));have p0:w1.cell? ⟨w.heap.size+1,0,none⟩=some (.int .i64 2):=hg1.cell 0;have p1:w1.cell? ⟨w.heap.size+1,1,none⟩=some (.string (s.extract 0 n)):=hg1.cell 1;have p2:w1.cell? ⟨w.heap.size+1,2,none⟩=some (.int .i64 v):=hg1.cell 2;have p3:w1.cell? ⟨w.heap.size+1,3,none⟩=some (.string ⟨#[]⟩):=hg1.cell 3;have p4:w1.cell? ⟨w.heap.size+1,4,none⟩=some (.int .i64 0):=hg1.cell 4;have p5:w1.cell? ⟨w.heap.size+1,5,none⟩=some (.int .i64 0):=hg1.cell 5
  have p6:w1.cell? ⟨w.heap.size+1,6,none⟩=some (.int .i64 0):=hg1.cell 6;have p7:w1.cell? ⟨w.heap.size+1,7,none⟩=some (.int .i64 0):=hg1.cell 7;have p8:w1.cell? ⟨w.heap.size+1,8,none⟩=some (.int .i64 0):=hg1.cell 8;have p9:w1.cell? ⟨w.heap.size+1,9,none⟩=some (.int .i64 0):=hg1.cell 9;have p10:w1.cell? ⟨w.heap.size+1,10,none⟩=some (.int .i64 0):=hg1.cell 10;have f1:=hg1.frozen 1;have r0:=hg0.cell;have q0:=hg0.frozen;clear hfar hB1 hb1 hg0 hg1;go_wp2_with fail;refine bodyPost_ret (word_res hr.o.1 rfl rfl rfl rfl) rfl ⟨?_,hr.o.2⟩;rw[hx.o];exact WordOut.good HF2.o ⟨_,⟨⟨⟨#[]⟩,0,0,0,0,0,rfl⟩,fun h=>by simp at h⟩,rfl⟩
theorem word_text(s:ByteArray)(w:World)(hs:s.size<=100000)(h0:0<s.size)(hl0:Ad.letter s[0]=false)(hl:Ad.digit s[0]=false)(hq:s[0].toNat=34):
 Calls Tryz.prog 127 #[.string s] w fun e w'=>WordOut s e/\Below w.heap.size w w':=by
 have hi1:∀W:World,(Instr.index 9 (.string s) (.int .i64 0)).run Tryz.prog W= .ok (.int .u8 (s[0].toNat:Int)) W:=fun W=>idx_atu s 0 (by omega) rfl W;have hc:=s[0].toNat_lt
 obtain⟨r,hd⟩:∃r,s.data.toList=s[0]::r:=⟨s.data.toList.drop 1,by
  have:=List.drop_eq_getElem_cons (l:=s.data.toList) (i:=0) (by simpa using h0);rw[List.drop_zero] at this;exact this⟩
 have hr:s.data.toList.drop 1=r:=by rw[hd];rfl
 have HF:=q_ (show Ad.wordX s.data.toList=match Ad.text r with|none=> .error 80|some (v,n)=>if 4096<v.length then .error 2 else .ok (⟨3,v,0⟩,n+1) from by
  generalize s.data.toList=L at*;subst hd;unfold Ad.wordX;simp only[hl0,hl,hq,Bool.false_eq_true,if_false,if_true];first|done|rfl)
 generalize s[0]=c at*
 have K1:=q_ (show∀W:World,Calls Tryz.prog 212 #[.int .u8 (c.toNat:Int)] W fun e w'=>e= .returned (.bool false)/\w'=W from fun W=>by
  have:=letter_any c W
  rwa [hl0] at this)
 have K1d:=q_ (show∀W:World,Calls Tryz.prog 215 #[.int .u8 (c.toNat:Int)] W fun e w'=>e= .returned (.bool false)/\w'=W from fun W=>by
  have:=isDigit_any c W
  rwa [hl] at this)
 have KT:=text_any s ((w.alloc (.cells zw 137)).alloc (.cells zw 137)) (by omega) h0;rw[hr] at KT;have hq2:((c.toNat:Int)==34)=true:=by rw[hq];rfl
 clear hd hl hl0 hq hr;unfold Ad.textV Ad.textN at KT;cases ht:Ad.text r with
 |none=>
  rw[ht] at KT HF;have KT:=q_ KT;have HF2:=q_ (show Ad.wordX s.data.toList= .error 80 from HF.o);go_enter Tryz.func127,Tryz.ntmps127;go_wp2_with (first|(go_at_call 212;refine(K1.o _).mono ?_;rintro e w' ⟨rfl,rfl⟩)|(go_at_call 215;refine(K1d.o _).mono ?_;rintro e w' ⟨rfl,rfl⟩));refine KT.o.mono ?_;rintro e w1 ⟨rfl,hb1⟩;have hg0:=((Blk.new w 137 zw).alloc (.cells zw 137)).below hb1 (by simp;omega);have hB1:Below w.heap.size w w1:=((((Below.refl _ w).alloc (n_) (.cells zw 137)).alloc (by simp) (.cells zw 137))).trans (hb1.mono (by simp;omega));have hr:=q_ (wrote11 (w:=w) hg0 hB1 (n_) (.int .i64 0) (.string ⟨#[]⟩) (.int .i64 0) (.string ⟨#[]⟩) (.int .i64 0) (.int .i64 0) (.int .i64 0) (.int .i64 0) (.int .i64 0) (.int .i64 0) (.int .i64 0));have r0:=hg0.cell;have q0:=hg0.frozen;clear hB1 hb1 hg0;go_wp2_with fail;refine bodyPost_ret (word_res hr.o.1 rfl rfl rfl rfl) rfl ⟨WordOut.bad HF2.o,hr.o.2⟩
 |some y=>
  obtain⟨v,m⟩:=y;rw[ht] at KT HF;have HF:=q_ (show Ad.wordX s.data.toList=if 4096<v.length then .error 2 else .ok (⟨3,v,0⟩,m+1) from HF.o);have htl:=Ad.text_len _ r v m (n_) ht;obtain⟨tb,htb⟩:∃tb:ByteArray,tb=⟨v.toArray⟩:=⟨_,rfl⟩
  have hts:tb.size=v.length:=by rw[htb,mk_size]
  have HTB:=q_ htb;simp only at KT;rw[<-htb] at KT;have KT:=q_ KT;have hm0:(((m+1:Nat):Int)==0)=false:=by rw[beq_eq_false_iff_ne];omega
  clear htb ht;by_cases hlen:4096<v.length
  ·have HF2:=q_ (HF.o.trans (if_pos hlen))
   have hl2:4096<tb.size:=by omega
   clear hlen hts;go_enter Tryz.func127,Tryz.ntmps127;go_wp2_with (first|(go_at_call 212;refine(K1.o _).mono ?_;rintro e w' ⟨rfl,rfl⟩)|(go_at_call 215;refine(K1d.o _).mono ?_;rintro e w' ⟨rfl,rfl⟩));refine KT.o.mono ?_;rintro e w1 ⟨rfl,hb1⟩;have hg0:=((Blk.new w 137 zw).alloc (.cells zw 137)).below hb1 (by simp;omega);have hB1:Below w.heap.size w w1:=((((Below.refl _ w).alloc (n_) (.cells zw 137)).alloc (by simp) (.cells zw 137))).trans (hb1.mono (by simp;omega));have hr:=q_ (wrote11 (w:=w) hg0 hB1 (n_) (.int .i64 0) (.string ⟨#[]⟩) (.int .i64 0) (.string ⟨#[]⟩) (.int .i64 0) (.int .i64 0) (.int .i64 0) (.int .i64 0) (.int .i64 0) (.int .i64 0) (.int .i64 0));have r0:=hg0.cell;have q0:=hg0.frozen;clear hB1 hb1 hg0;go_wp2_with fail;refine bodyPost_ret (word_res hr.o.1 rfl rfl rfl rfl) rfl ⟨WordOut.bad HF2.o,hr.o.2⟩
  ·have HF2:=q_ (HF.o.trans (if_neg hlen))
   have hl2:¬4096<tb.size:=by omega
   clear hlen hts;go_enter Tryz.func127,Tryz.ntmps127;go_wp2_with (first|(go_at_call 212;refine(K1.o _).mono ?_;rintro e w' ⟨rfl,rfl⟩)|(go_at_call 215;refine(K1d.o _).mono ?_;rintro e w' ⟨rfl,rfl⟩));refine KT.o.mono ?_;rintro e w1 ⟨rfl,hb1⟩;have hg0:=((Blk.new w 137 zw).alloc (.cells zw 137)).below hb1 (by simp;omega)
   have hg1:Blk w1 (w.heap.size+1) 137 zw:=by
    have:=(Blk.new (w.alloc (.cells zw 137)) 137 zw).below hb1 (by simp);simpa using this
   have hB1:Below w.heap.size w w1:=((((Below.refl _ w).alloc (n_) (.cells zw 137)).alloc (by simp) (.cells zw 137))).trans (hb1.mono (by simp;omega));obtain⟨hA,hB2⟩:=wrote11 (w:=w) hg1 hB1 (by omega) (.int .i64 3) (.string tb) (.int .i64 0) (.string ⟨#[]⟩) (.int .i64 0) (.int .i64 0) (.int .i64 0) (.int .i64 0) (.int .i64 0) (.int .i64 0) (.int .i64 0);have hfar0:=(((((((((((hg0.far (p:=⟨w.heap.size+1,0,none⟩) (by simp) (.int .i64 3)).far (p:=⟨w.heap.size+1,1,none⟩) (by simp) (.string tb)).far (p:=⟨w.heap.size+1,2,none⟩) (by simp) (.int .i64 0)).far (p:=⟨w.heap.size+1,3,none⟩) (by simp) (.string ⟨#[]⟩)).far (p:=⟨w.heap.size+1,4,none⟩) (by simp) (.int .i64 0)).far (p:=⟨w.heap.size+1,5,none⟩) (by simp) (.int .i64 0)).far (p:=⟨w.heap.size+1,6,none⟩) (by simp) (.int .i64 0)).far (p:=⟨w.heap.size+1,7,none⟩) (by simp) (.int .i64 0)).far (p:=⟨w.heap.size+1,8,none⟩) (by simp) (.int .i64 0)).far (p:=⟨w.heap.size+1,9,none⟩) (by simp) (.int .i64 0)).far (p:=⟨w.heap.size+1,10,none⟩) (by simp) (.int .i64 0))
   have K3:=q_ (sclone_any tb (((((((((((w1.setCell ⟨w.heap.size+1,0,none⟩ (.int .i64 3)).setCell ⟨w.heap.size+1,1,none⟩ (.string tb)).setCell ⟨w.heap.size+1,2,none⟩ (.int .i64 0)).setCell ⟨w.heap.size+1,3,none⟩ (.string ⟨#[]⟩)).setCell ⟨w.heap.size+1,4,none⟩ (.int .i64 0)).setCell ⟨w.heap.size+1,5,none⟩ (.int .i64 0)).setCell ⟨w.heap.size+1,6,none⟩ (.int .i64 0)).setCell ⟨w.heap.size+1,7,none⟩ (.int .i64 0)).setCell ⟨w.heap.size+1,8,none⟩ (.int .i64 0)).setCell ⟨w.heap.size+1,9,none⟩ (.int .i64 0)).setCell ⟨w.heap.size+1,10,none⟩ (.int .i64 0)) (by omega));have r0:=hg1.cell;have q0:=hg1.frozen;have HH:=q_ (And.intro hA (And.intro hB2 hfar0));clear hA hB2 hfar0 hB1 hb1 hg0 hg1;go_wp2_with fail;refine K3.o.mono ?_;rintro e w2 ⟨rfl,hb2⟩;clear r0 q0;have hg1b:=HH.o.1.below hb2 HH.o.1.lt;have hg0b:=HH.o.2.2.below hb2 HH.o.2.2.lt;have hB3:=HH.o.2.1.trans (hb2.mono HH.o.2.1.size);have hfar:=hg0b.far (p:=⟨w.heap.size+1,1,none⟩) (by simp) (.string tb)
   have hr:=q_ (wrote11 (w:=w) hfar (hB3.setCell (p:=⟨w.heap.size+1,1,none⟩) (by simp) (.string tb)) (n_) (.int .i64 3) (.string tb) (.int .i64 0) (.string ⟨#[]⟩) (.int .i64 0) (.int .i64 0) (.int .i64 0) (.int .i64 0) (.int .i64 0) (.int .i64 0) (.int .i64 0));have p0:w2.cell? ⟨w.heap.size+1,0,none⟩=some (.int .i64 3):=hg1b.cell 0;have p1:w2.cell? ⟨w.heap.size+1,1,none⟩=some (.string tb):=hg1b.cell 1;have p2:w2.cell? ⟨w.heap.size+1,2,none⟩=some (.int .i64 0):=hg1b.cell 2;have p3:w2.cell? ⟨w.heap.size+1,3,none⟩=some (.string ⟨#[]⟩):=hg1b.cell 3;have p4:w2.cell? ⟨w.heap.size+1,4,none⟩=some (.int .i64 0):=hg1b.cell 4;have p5:w2.cell? ⟨w.heap.size+1,5,none⟩=some (.int .i64 0):=hg1b.cell 5;have p6:w2.cell? ⟨w.heap.size+1,6,none⟩=some (.int .i64 0):=hg1b.cell 6;have p7:w2.cell? ⟨w.heap.size+1,7,none⟩=some (.int .i64 0):=hg1b.cell 7;have p8:w2.cell? ⟨w.heap.size+1,8,none⟩=some (.int .i64 0):=hg1b.cell 8;have p9:w2.cell? ⟨w.heap.size+1,9,none⟩=some (.int .i64 0):=hg1b.cell 9;have p10:w2.cell? ⟨w.heap.size+1,10,none⟩=some (.int .i64 0):=hg1b.cell 10;have f1:=hg1b.frozen 1;have r0:=hg0b.cell;have q0:=hg0b.frozen;clear hfar hB3 hb2 hg0b hg1b HH;go_wp2_with fail
   refine bodyPost_ret (word_res hr.o.1 rfl rfl rfl rfl) rfl ⟨?_,hr.o.2⟩;rw[HTB.o];exact WordOut.good HF2.o ⟨_,⟨⟨⟨#[]⟩,0,0,0,0,0,rfl⟩,fun h=>by simp at h⟩,rfl⟩
theorem word_path(s:ByteArray)(w:World)(hs:s.size<=100000)(h0:0<s.size)(hl0:Ad.letter s[0]=false)(hl:Ad.digit s[0]=false)(hp:s[0].toNat=64):
 Calls Tryz.prog 127 #[.string s] w fun e w'=>WordOut s e/\Below w.heap.size w w':=by
 have hi1:∀W:World,(Instr.index 9 (.string s) (.int .i64 0)).run Tryz.prog W= .ok (.int .u8 (s[0].toNat:Int)) W:=fun W=>idx_atu s 0 (by omega) rfl W;have hc:=s[0].toNat_lt
 obtain⟨r,hd⟩:∃r,s.data.toList=s[0]::r:=⟨s.data.toList.drop 1,by
  have:=List.drop_eq_getElem_cons (l:=s.data.toList) (i:=0) (by simpa using h0);rw[List.drop_zero] at this;exact this⟩
 have hr:(s.extract 1 s.size).data.toList=r:=by rw[ext_end,hd];rfl
 have HF:=q_ (show Ad.wordX s.data.toList=if Ad.pathOk (s.extract 1 (1+Ad.run Ad.pathC (s.extract 1 s.size).data.toList)).data.toList=true then .ok (⟨4,(s.extract 1 (1+Ad.run Ad.pathC (s.extract 1 s.size).data.toList)).data.toList,0⟩,1+Ad.run Ad.pathC (s.extract 1 s.size).data.toList) else .error 80 from by
  rw[ext_mid,hr];generalize s.data.toList=L at*;subst hd;unfold Ad.wordX;simp only[hl0,hl,hp,Bool.false_eq_true,if_false,if_true,show¬(64:Nat)=34 by decide,List.drop_succ_cons,List.drop_zero])
 generalize s[0]=c at*
 have K1:=q_ (show∀W:World,Calls Tryz.prog 212 #[.int .u8 (c.toNat:Int)] W fun e w'=>e= .returned (.bool false)/\w'=W from fun W=>by
  have:=letter_any c W
  rwa [hl0] at this)
 have K1d:=q_ (show∀W:World,Calls Tryz.prog 215 #[.int .u8 (c.toNat:Int)] W fun e w'=>e= .returned (.bool false)/\w'=W from fun W=>by
  have:=isDigit_any c W
  rwa [hl] at this)
 have hle:Ad.run Ad.pathC (s.extract 1 s.size).data.toList<=s.size-1:=by
  have:=Ad.run_le Ad.pathC (s.extract 1 s.size).data.toList;rw[len_size,ByteArray.size_extract] at this;omega
 have KR:∀W:World,_:=fun W=>runPath_any (s.extract 1 s.size) W (by rw[ByteArray.size_extract];omega);generalize Ad.run Ad.pathC (s.extract 1 s.size).data.toList=n at*;have KR:=q_ KR;have y1:((c.toNat:Int)==34)=false:=by rw[hp];rfl
 have y2:((c.toNat:Int)==64)=true:=by rw[hp];rfl
 clear hd hl hl0 hp hr;have KP:=q_ (fun(k:Nat) (W:World)=>pathParse_any (s.extract 1 k) W (by rw[ByteArray.size_extract];omega));go_enter Tryz.func127,Tryz.ntmps127;go_wp2_with (first|(go_at_call 212;refine(K1.o _).mono ?_;rintro e w' ⟨rfl,rfl⟩)|(go_at_call 215;refine(K1d.o _).mono ?_;rintro e w' ⟨rfl,rfl⟩)|(go_at_call 213;refine(KR.o _).mono ?_;rintro e w' ⟨rfl,rfl⟩));refine(KP.o _ _).mono ?_
 rintro e w1 ⟨⟨cs,er,⟨pt,pa,pb,pc,pd,pe,rfl⟩,hok,hex,rfl⟩,hb1⟩;have HEX:=q_ hex;clear hex;have hg0:=(((Blk.new w 137 zw).alloc (.cells zw 137)).below hb1 (by simp;omega)).alloc (.cells #[.string pt,.int .i64 pa,.int .i64 pb,.int .i64 pc,.int .i64 pd,.int .i64 pe] 135)
 have hg1:Blk (w1.alloc (.cells #[.string pt,.int .i64 pa,.int .i64 pb,.int .i64 pc,.int .i64 pd,.int .i64 pe] 135)) (w.heap.size+1) 137 zw:=by
  have:=((Blk.new (w.alloc (.cells zw 137)) 137 zw).below hb1 (by simp)).alloc (.cells #[.string pt,.int .i64 pa,.int .i64 pb,.int .i64 pc,.int .i64 pd,.int .i64 pe] 135);simpa using this
 have hg2:=Blk.new w1 135 #[.string pt,.int .i64 pa,.int .i64 pb,.int .i64 pc,.int .i64 pd,.int .i64 pe];have hz1:w.heap.size+2<=w1.heap.size:=by have:=hb1.size;simpa using this
 have hB1:Below w.heap.size w (w1.alloc (.cells #[.string pt,.int .i64 pa,.int .i64 pb,.int .i64 pc,.int .i64 pd,.int .i64 pe] 135)):=(((((Below.refl _ w).alloc (n_) (.cells zw 137)).alloc (by simp) (.cells zw 137))).trans (hb1.mono (by simp;omega))).alloc (by omega) _;have r0:=hg0.cell;have q0:=hg0.frozen;by_cases her:er=0
 ·have HF2:=q_ (HF.o.trans (if_pos (hok.1 her)))
  subst her;clear hok;have r1:=hg1.cell;have q1:=hg1.frozen;have s0:(w1.alloc (.cells #[.string pt,.int .i64 pa,.int .i64 pb,.int .i64 pc,.int .i64 pd,.int .i64 pe] 135)).cell? ⟨w1.heap.size,0,none⟩=some (.string pt):=hg2.cell 0;have s1:(w1.alloc (.cells #[.string pt,.int .i64 pa,.int .i64 pb,.int .i64 pc,.int .i64 pd,.int .i64 pe] 135)).cell? ⟨w1.heap.size,1,none⟩=some (.int .i64 pa):=hg2.cell 1;have s2:(w1.alloc (.cells #[.string pt,.int .i64 pa,.int .i64 pb,.int .i64 pc,.int .i64 pd,.int .i64 pe] 135)).cell? ⟨w1.heap.size,2,none⟩=some (.int .i64 pb):=hg2.cell 2;have s3:(w1.alloc (.cells #[.string pt,.int .i64 pa,.int .i64 pb,.int .i64 pc,.int .i64 pd,.int .i64 pe] 135)).cell? ⟨w1.heap.size,3,none⟩=some (.int .i64 pc):=hg2.cell 3;have s4:(w1.alloc (.cells #[.string pt,.int .i64 pa,.int .i64 pb,.int .i64 pc,.int .i64 pd,.int .i64 pe] 135)).cell? ⟨w1.heap.size,4,none⟩=some (.int .i64 pd):=hg2.cell 4;have s5:(w1.alloc (.cells #[.string pt,.int .i64 pa,.int .i64 pb,.int .i64 pc,.int .i64 pd,.int .i64 pe] 135)).cell? ⟨w1.heap.size,5,none⟩=some (.int .i64 pe):=hg2.cell 5;have K3:=q_ (fun W=>sclone_any (s.extract 1 (1+n)) W (by rw[ByteArray.size_extract];omega))
  obtain⟨hA,hB2⟩:=wrote11 (w:=w) hg1 hB1 (by omega) (.int .i64 4) (.string (s.extract 1 (1+n))) (.int .i64 0) (.string pt) (.int .i64 pa) (.int .i64 pb) (.int .i64 pc) (.int .i64 pd) (.int .i64 pe) (.int .i64 0) (.int .i64 0);have hfar0:=(((((((((((hg0.far (p:=⟨w.heap.size+1,0,none⟩) (by simp) (.int .i64 4)).far (p:=⟨w.heap.size+1,1,none⟩) (by simp) (.string (s.extract 1 (1+n)))).far (p:=⟨w.heap.size+1,2,none⟩) (by simp) (.int .i64 0)).far (p:=⟨w.heap.size+1,3,none⟩) (by simp) (.string pt)).far (p:=⟨w.heap.size+1,4,none⟩) (by simp) (.int .i64 pa)).far (p:=⟨w.heap.size+1,5,none⟩) (by simp) (.int .i64 pb)).far (p:=⟨w.heap.size+1,6,none⟩) (by simp) (.int .i64 pc)).far (p:=⟨w.heap.size+1,7,none⟩) (by simp) (.int .i64 pd)).far (p:=⟨w.heap.size+1,8,none⟩) (by simp) (.int .i64 pe)).far (p:=⟨w.heap.size+1,9,none⟩) (by simp) (.int .i64 0)).far (p:=⟨w.heap.size+1,10,none⟩) (by simp) (.int .i64 0))
  have HH:=q_ (And.intro hA.drew (And.intro hB2.drew hfar0.drew));clear hA hB2 hfar0;clear hB1 hb1 hg0 hg1 hg2 hz1;go_wp2_with fail
  go_region
  go_wp2_with fail;refine(K3.o _).mono ?_
  rintro e w2 ⟨rfl,hb2⟩;clear r0 q0 r1 q1 s0 s1 s2 s3 s4 s5;have hg1b:=HH.o.1.below hb2 HH.o.1.lt;have hg0b:=HH.o.2.2.below hb2 HH.o.2.2.lt;have hB3:=HH.o.2.1.trans (hb2.mono HH.o.2.1.size);have hfar:=hg0b.far (p:=⟨w.heap.size+1,1,none⟩) (by simp) (.string (s.extract 1 (1+n)));have hr:=q_ (wrote11 (w:=w) hfar (hB3.setCell (p:=⟨w.heap.size+1,1,none⟩) (by simp) (.string (s.extract 1 (1+n)))) (n_) (.int .i64 4) (.string (s.extract 1 (1+n))) (.int .i64 0) (.string pt) (.int .i64 pa) (.int .i64 pb) (.int .i64 pc) (.int .i64 pd) (.int .i64 pe) (.int .i64 0) (.int .i64 0));have p0:w2.cell? ⟨w.heap.size+1,0,none⟩=some (.int .i64 4):=hg1b.cell 0;have p1:w2.cell? ⟨w.heap.size+1,1,none⟩=some (.string (s.extract 1 (1+n))):=hg1b.cell 1;have p2:w2.cell? ⟨w.heap.size+1,2,none⟩=some (.int .i64 0):=hg1b.cell 2;have p3:w2.cell? ⟨w.heap.size+1,3,none⟩=some (.string pt):=hg1b.cell 3;have p4:w2.cell? ⟨w.heap.size+1,4,none⟩=some (.int .i64 pa):=hg1b.cell 4;have p5:w2.cell? ⟨w.heap.size+1,5,none⟩=some (.int .i64 pb):=hg1b.cell 5;have p6:w2.cell? ⟨w.heap.size+1,6,none⟩=some (.int .i64 pc):=hg1b.cell 6;have p7:w2.cell? ⟨w.heap.size+1,7,none⟩=some (.int .i64 pd):=hg1b.cell 7
  have p8:w2.cell? ⟨w.heap.size+1,8,none⟩=some (.int .i64 pe):=hg1b.cell 8;have p9:w2.cell? ⟨w.heap.size+1,9,none⟩=some (.int .i64 0):=hg1b.cell 9;have p10:w2.cell? ⟨w.heap.size+1,10,none⟩=some (.int .i64 0):=hg1b.cell 10;have f1:=hg1b.frozen 1;have r0:=hg0b.cell;have q0:=hg0b.frozen;clear hfar hB3 hb2 hg0b hg1b HH;go_wp2_with fail;refine bodyPost_ret (word_res hr.o.1 rfl rfl rfl rfl) rfl ⟨WordOut.good HF2.o ⟨_,⟨⟨pt,pa,pb,pc,pd,pe,rfl⟩,fun _=>HEX.o trivial⟩,rfl⟩,hr.o.2⟩
 ·have HF2:=q_ (HF.o.trans (if_neg fun h=>her (hok.2 h)))
  clear hok;have h1:(er !=0)=true:=by rw[bne_iff_ne];exact her
  have hr:=q_ (wrote11 (w:=w) hg0 hB1 (n_) (.int .i64 0) (.string ⟨#[]⟩) (.int .i64 0) (.string ⟨#[]⟩) (.int .i64 0) (.int .i64 0) (.int .i64 0) (.int .i64 0) (.int .i64 0) (.int .i64 0) (.int .i64 0));clear hB1 hb1 hg0 hg1 hg2 hz1;go_wp2_with fail;refine bodyPost_ret (word_res hr.o.1 rfl rfl rfl rfl) rfl ⟨WordOut.bad HF2.o,hr.o.2⟩
end
section
open Go Go.RowKit
theorem results_tmp4{fn:Func}{t u v x:Tmp}(h:fn.results=#[.tmp t,.tmp u,.tmp v,.tmp x])(tmps:Array Value)(P:Program)(w:World):
 (results fn tmps).run P w= .ok (.tuple #[tmps.getD t undef,tmps.getD u undef,tmps.getD v undef,tmps.getD x undef]) w:=by
 simp[results,h]
theorem arr_of{T:Array Value}(n:Nat)(h:T.size=n):T=((List.range n).map fun i=>T.getD i undef).toArray:=by
 apply Array.ext_getElem?;intro i;simp;rcases Nat.lt_or_ge i n with hi|hi
 ·rw[List.getElem?_range hi]
  simp[h,hi]
 ·rw[Array.getElem?_eq_none (by omega),List.getElem?_eq_none (by simpa using hi)]
  rfl
theorem frame89{T:Array Value}(h:T.size=89):T=#[T.getD 0 undef,T.getD 1 undef,T.getD 2 undef,T.getD 3 undef,T.getD 4 undef,T.getD 5 undef,T.getD 6 undef,T.getD 7 undef,T.getD 8 undef,T.getD 9 undef,T.getD 10 undef,T.getD 11 undef,T.getD 12 undef,T.getD 13 undef,T.getD 14 undef,T.getD 15 undef,T.getD 16 undef,T.getD 17 undef,T.getD 18 undef,T.getD 19 undef,T.getD 20 undef,T.getD 21 undef,T.getD 22 undef,T.getD 23 undef,T.getD 24 undef,T.getD 25 undef,T.getD 26 undef,T.getD 27 undef,T.getD 28 undef,T.getD 29 undef,T.getD 30 undef,T.getD 31 undef,T.getD 32 undef,T.getD 33 undef,T.getD 34 undef,T.getD 35 undef,T.getD 36 undef,T.getD 37 undef,T.getD 38 undef,T.getD 39 undef,T.getD 40 undef,T.getD 41 undef,T.getD 42 undef,T.getD 43 undef,T.getD 44 undef,T.getD 45 undef,T.getD 46 undef,T.getD 47 undef,T.getD 48 undef,T.getD 49 undef,T.getD 50 undef,T.getD 51 undef,T.getD 52 undef,T.getD 53 undef,T.getD 54 undef,T.getD 55 undef,T.getD 56 undef,T.getD 57 undef,T.getD 58 undef,T.getD 59 undef,T.getD 60 undef,T.getD 61 undef,T.getD 62 undef,T.getD 63 undef,T.getD 64 undef,T.getD 65 undef,T.getD 66 undef,T.getD 67 undef,T.getD 68 undef,T.getD 69 undef,T.getD 70 undef,T.getD 71 undef,T.getD 72 undef,T.getD 73 undef,T.getD 74 undef,T.getD 75 undef,T.getD 76 undef,T.getD 77 undef,T.getD 78 undef,T.getD 79 undef,T.getD 80 undef,T.getD 81 undef,T.getD 82 undef,T.getD 83 undef,T.getD 84 undef,T.getD 85 undef,T.getD 86 undef,T.getD 87 undef,T.getD 88 undef]:=arr_of 89 h
def ScanF(s:ByteArray)(k:Nat)(ln bg:Int)(v:Value)(a:Act):Prop:=
 a.defers=[]/\a.tmps.size=89/\a.tmps.getD 0 undef= .string s/\a.tmps.getD 2 undef= .slice none 0 0/\a.tmps.getD 3 undef= .int .i64 0/\a.tmps.getD 4 undef= .int .i64 0/\a.tmps.getD 5 undef= .int .i64 0/\a.tmps.getD 6 undef=v/\a.tmps.getD 7 undef= .int .i64 (k:Int)/\a.tmps.getD 8 undef= .int .i64 ln/\a.tmps.getD 9 undef= .int .i64 bg
theorem ScanF.lit{s:ByteArray}{k:Nat}{ln bg:Int}{v:Value}{a:Act}(h:ScanF s k ln bg v a):∃u:Nat->Value,a={tmps:=#[.string s,u 1,.slice none 0 0,.int .i64 0,.int .i64 0,.int .i64 0,v,.int .i64 (k:Int),.int .i64 ln,.int .i64 bg,u 10,u 11,u 12,u 13,u 14,u 15,u 16,u 17,u 18,u 19,u 20,u 21,u 22,u 23,u 24,u 25,u 26,u 27,u 28,u 29,u 30,u 31,u 32,u 33,u 34,u 35,u 36,u 37,u 38,u 39,u 40,u 41,u 42,u 43,u 44,u 45,u 46,u 47,u 48,u 49,u 50,u 51,u 52,u 53,u 54,u 55,u 56,u 57,u 58,u 59,u 60,u 61,u 62,u 63,u 64,u 65,u 66,u 67,u 68,u 69,u 70,u 71,u 72,u 73,u 74,u 75,u 76,u 77,u 78,u 79,u 80,u 81,u 82,u 83,u 84,u 85,u 86,u 87,u 88],defers:=[]}:=by
 obtain⟨hd,hs,h0,h2,h3,h4,h5,h6,h7,h8,h9⟩:=h;obtain⟨T,D⟩:=a;simp only at hd hs h0 h2 h3 h4 h5 h6 h7 h8 h9;refine⟨fun i=>T.getD i undef,?_⟩;subst hd;have e:=frame89 hs;rw[h0,h2,h3,h4,h5,h6,h7,h8,h9] at e;exact congrArg (fun T=>({tmps:=T,defers:=[]}:Act)) e
namespace Ad
def inLine(c:UInt8):Bool:=decide (c.toNat≠10)
inductive ScanX:Bs->Except Int (List Tok)->Prop
 |nil:ScanX [] (.ok [])
 |skip (c:UInt8) (r:Bs) (x:Except Int (List Tok)):blank c->ScanX r x->ScanX (c::r) x
 |remark (c:UInt8) (r:Bs) (x:Except Int (List Tok)):c.toNat=35->ScanX (r.dropWhile inLine) x->ScanX (c::r) x
 |bad (c:UInt8) (r:Bs) (er:Int):¬blank c->c.toNat≠35->wordX (c::r)= .error er->ScanX (c::r) (.error er)
 |word (c:UInt8) (r:Bs) (t:Tok) (n:Nat) (x:Except Int (List Tok)):¬blank c->c.toNat≠35->wordX (c::r)= .ok (t,n)->ScanX ((c::r).drop n) x->ScanX (c::r) (x.map (t::·))
theorem ScanX.unique{l:Bs}{x y:Except Int (List Tok)}(h:ScanX l x)(k:ScanX l y):x=y:=by
 induction h generalizing y with
 |nil=>cases k;rfl
 |skip c r x hb _ ih=>
  cases k with
  |skip _ _ _ _ k=>exact ih k
  |remark _ _ _ h2 _=>unfold blank at hb;omega
  |bad _ _ _ h2 _ _=>exact absurd hb h2
  |word _ _ _ _ _ h2 _ _ _=>exact absurd hb h2
 |remark c r x hb _ ih=>
  cases k with
  |skip _ _ _ h2 k=>unfold blank at h2;omega
  |remark _ _ _ h2 k=>exact ih k
  |bad _ _ _ _ h2 _=>exact absurd hb h2
  |word _ _ _ _ _ _ h2 _ _=>exact absurd hb h2
 |bad c r er h1 h2 h3=>
  cases k with
  |skip _ _ _ h4 k=>exact absurd h4 h1
  |remark _ _ _ h4 k=>exact absurd h4 h2
  |bad _ _ _ _ _ h4=>rw[h3] at h4;cases h4;rfl
  |word _ _ _ _ _ _ _ h4 _=>rw[h3] at h4;cases h4
 |word c r t n x h1 h2 h3 _ ih=>
  cases k with
  |skip _ _ _ h4 k=>exact absurd h4 h1
  |remark _ _ _ h4 k=>exact absurd h4 h2
  |bad _ _ _ _ _ h4=>rw[h3] at h4;cases h4
  |word _ _ _ _ _ _ _ h4 k=>
   rw[h3] at h4;cases h4;rw[ih k]
theorem dropW(p:UInt8->Bool)(l:Bs)(m:Nat)(h:∀j,j<m->∃c,l[j]? =some c/\p c=true)(he:∀c,l[m]? =some c->p c=false):l.dropWhile p=l.drop m:=by
 induction m generalizing l with
 |zero=>
  cases l with
  |nil=>rfl
  |cons a l=>rw[List.dropWhile_cons_of_neg (by simp[he a rfl])];rfl
 |succ m ih=>
  cases l with
  |nil=>
   obtain⟨c,hc,_⟩:=h 0 (by omega);cases hc
  |cons a l=>
   obtain⟨c,hc,hp⟩:=h 0 (by omega);simp at hc;subst hc;rw[List.dropWhile_cons_of_pos hp,List.drop_succ_cons];exact ih l (fun j hj=>by have:=h (j+1) (by omega);simpa using this) (fun c hc=>he c (by simpa using hc))
def ScanAt(L:Bs)(k:Nat)(toks:List Tok):Prop:=∀x,ScanX (L.drop k) x->ScanX L (x.map (toks++·))
theorem ScanAt.start(L:Bs):ScanAt L 0 []:=fun x h=>by
 have:x.map (([]:List Tok)++·)=x:=by cases x<;>simp[Except.map]
 rw[this];exact h
section
variable {L:Bs} {k:Nat} {toks:List Tok}
theorem ScanAt.skip(h:ScanAt L k toks){c:UInt8}(hd:L.drop k=c::L.drop (k+1))(hb:blank c):ScanAt L (k+1) toks:=fun x hx=>by
 refine h x ?_;rw[hd];exact .skip c _ x hb hx
theorem ScanAt.remark(h:ScanAt L k toks){c:UInt8}(hd:L.drop k=c::L.drop (k+1))(hb:c.toNat=35)(j:Nat)(hj:(L.drop (k+1)).dropWhile inLine=L.drop j):ScanAt L j toks:=fun x hx=>by
 refine h x ?_;rw[hd];refine .remark c _ x hb ?_;rw[hj];exact hx
theorem ScanAt.word(h:ScanAt L k toks){c:UInt8}(hd:L.drop k=c::L.drop (k+1))(hb:¬blank c)(hr:c.toNat≠35){t:Tok}{n:Nat}(hw:wordX (L.drop k)= .ok (t,n)):ScanAt L (k+n) (toks++[t]):=fun x hx=>by
 have h2:=h (x.map (t::·)) (by
  rw[hd] at hw⊢;refine .word c _ t n x hb hr hw ?_;rw[<-hd,List.drop_drop];exact hx)
 have e:(x.map (t::·)).map (toks++·)=x.map (toks++[t]++·):=by cases x<;>simp[Except.map]
 rw[<-e];exact h2
theorem ScanAt.bad(h:ScanAt L k toks){c:UInt8}(hd:L.drop k=c::L.drop (k+1))(hb:¬blank c)(hr:c.toNat≠35){er:Int}(hw:wordX (L.drop k)= .error er):ScanX L (.error er):=by
 refine h (.error er) ?_;rw[hd] at hw⊢;exact .bad c _ er hb hr hw
theorem ScanAt.done(h:ScanAt L k toks)(hk:L.length<=k):ScanX L (.ok toks):=by
 have:=h (.ok []) (by rw[List.drop_eq_nil_of_le hk];exact .nil);simpa[Except.map] using this
end
theorem run_pos{p:UInt8->Bool}{c:UInt8}{r:Bs}(h:p c=true):1<=run p (c::r):=by
 unfold run;simp[List.takeWhile,h]
theorem wordX_len{s:Bs}{t:Tok}{n:Nat}(h:wordX s= .ok (t,n)):1<=n/\n<=s.length:=by
 unfold wordX at h;split at h
 ·cases h
 ·rename_i c r
  split at h
  ·rename_i h1
   split at h
   ·cases h
   ·cases h
    exact⟨run_pos (by unfold nameC;simp[h1]),run_le _ _⟩
  ·split at h
   ·rename_i h2
    split at h
    ·cases h
     exact⟨run_pos h2,run_le _ _⟩
    ·cases h
   ·split at h
    ·cases ht:text r with
     |none=>rw[ht] at h;cases h
     |some y=>
      obtain⟨v,m⟩:=y;have hl:=text_len _ r v m (n_) ht;rw[ht] at h;simp only at h;split at h
      ·cases h
      ·cases h
       simp;omega
    ·split at h
     ·split at h
      ·cases h
       have:=run_le pathC r;simp;omega
      ·cases h
     ·split at h
      ·cases h
      ·cases h
       rename_i h5;exact⟨by omega,signN_len _⟩
theorem wordX_err{s:Bs}{er:Int}(h:wordX s= .error er):er=80\/er=2:=by
 unfold wordX at h
 repeat' split at h
 all_goals cases h
 all_goals simp
theorem scanX_err{l:Bs}{x:Except Int (List Tok)}(h:ScanX l x):∀er,x= .error er->er=80\/er=2:=by
 induction h with
 |nil=>intro er h;cases h
 |skip _ _ _ _ _ ih=>exact ih
 |remark _ _ _ _ _ ih=>exact ih
 |bad _ _ _ _ _ h3=>intro er h;cases h;exact wordX_err h3
 |word _ _ _ _ x _ _ _ _ ih=>
  intro er h;cases x with
  |error e=>cases h;exact ih _ rfl
  |ok l=>cases h
end Ad
def tokE:Enc Ad.Tok where
 n:=11
 pos:=by omega
 R:=fun _ _ cs t=>∃p l c,TokP t p/\cs=[.int .i64 t.kind,.string ⟨t.text.toArray⟩,.int .i64 t.num]++p++[.int .i64 l,.int .i64 c]
 len:=by
  rintro _ _ _ t ⟨p,l,c,⟨⟨pt,pa,pb,pc,pd,pe,rfl⟩,-⟩,rfl⟩;rfl
 keep:=by
  intro _ _ _ _ _ _ h _ _;exact h
 one:=by
  rintro _ _ _ t ⟨p,l,c,⟨⟨pt,pa,pb,pc,pd,pe,rfl⟩,-⟩,rfl⟩ u hu;simp at hu;rcases hu with rfl|rfl|rfl|rfl|rfl|rfl|rfl|rfl|rfl|rfl|rfl<;>rfl
end
namespace Ps
abbrev Ns:=List M.Node
abbrev Tk:=Ad.Tok
def endT:Tk:=⟨0,[],0⟩
def Ends(l:List Tk):Prop:=∃p,l=p++[endT]/\∀t∈p,t.kind≠0
def TokOk(t:Tk):Prop:=t.text.length<=100000/\0<=t.num/\t.num<=2147483647
def isW(t:Tk)(s:List UInt8):Bool:=(decide (t.kind=1)||decide (t.kind=5))&&(t.text==s)
def E0:ByteArray:=⟨#[]⟩
def pathT(t:Tk):M.Path:=⟨⟨(t.text.take (min 3 t.text.length)).toArray⟩,Ad.pathV t.text 1,Ad.pathV t.text 2,Ad.pathV t.text 3,Ad.pathV t.text 4,Ad.pathV t.text 5⟩
def path0:M.Path:=⟨E0,0,0,0,0,0⟩
def opN(op n:Int):M.Node:=⟨op,n,E0,0,path0⟩
def callN(name:List UInt8)(n:Nat):M.Node:=⟨23,n,⟨name.toArray⟩,0,path0⟩
def nameN(name:List UInt8):M.Node:=⟨12,0,⟨name.toArray⟩,0,path0⟩
def wOr:List UInt8:=[111,114]
def wAnd:List UInt8:=[97,110,100]
def wNot:List UInt8:=[110,111,116]
def wTrue:List UInt8:=[116,114,117,101]
def wFalse:List UInt8:=[102,97,108,115,101]
def leafOf(t:Tk):Option M.Node:=
 if t.kind=3 then some ⟨7,0,⟨t.text.toArray⟩,0,path0⟩
 else if t.kind=2 then some ⟨8,0,E0,t.num,path0⟩
 else if t.kind=4 then some ⟨11,0,E0,0,pathT t⟩
 else if isW t wTrue=true then some (opN 9 0)
 else if isW t wFalse=true then some (opN 10 0)
 else none
def nameOk(t:Tk):Bool:=decide (t.kind=1)&&M.ruleName ⟨t.text.toArray⟩
def cmpI(t:Tk):Int:=
 if t.kind≠5 then-1 else if t.text=[61,61] then 15 else if t.text=[33,61] then 16 else if t.text=[60] then 17
 else if t.text=[60,61] then 18 else if t.text=[62] then 19 else if t.text=[62,61] then 20 else-1
inductive Cat where
 |bin (k:Nat)
 |more (k:Nat) (acc:List Ns)
 |nots (j:Nat)
 |cmp
 |unit
 |arg (name:List UInt8) (acc:Ns) (n:Nat)
def sub:Nat->Cat
 |0=> .bin 1
 |1=> .nots 0
 |_=> .unit
def word:Nat->List UInt8
 |0=>wOr
 |1=>wAnd
 |_=>[43]
def opOf:Nat->Int
 |0=>13
 |1=>14
 |_=>21
def build(k:Nat)(acc:List Ns):Ns:=List.replicate (acc.length-1) (opN (opOf k) 2)++acc.flatten
abbrev Res:=Option (Ns×List Tk)
inductive R:Cat->List Tk->Res->Prop
 |bin0 {k ws}:R (sub k) ws none->R (.bin k) ws none
 |bin1 {k ws n r res}:R (sub k) ws (some (n,r))->R (.more k [n]) r res->R (.bin k) ws res
 |more0 {k acc t r}:isW t (word k)=false->R (.more k acc) (t::r) (some (build k acc,t::r))
 |more1 {k acc t r}:isW t (word k)=true->R (sub k) r none->R (.more k acc) (t::r) none
 |more2 {k acc t r n r2 res}:isW t (word k)=true->R (sub k) r (some (n,r2))->R (.more k (acc++[n])) r2 res->R (.more k acc) (t::r) res
 |not0 {j t r}:isW t wNot=false->R .cmp (t::r) none->R (.nots j) (t::r) none
 |not1 {j t r res}:isW t wNot=true->R (.nots (j+1)) r res->R (.nots j) (t::r) res
 |not2 {j t r n r2}:isW t wNot=false->R .cmp (t::r) (some (n,r2))->R (.nots j) (t::r) (some (List.replicate j (opN 22 1)++n,r2))
 |cmp0 {ws}:R (.bin 2) ws none->R .cmp ws none
 |cmp1 {ws a t r}:R (.bin 2) ws (some (a,t::r))->cmpI t<0->R .cmp ws (some (a,t::r))
 |cmp2 {ws a t r}:R (.bin 2) ws (some (a,t::r))->0<=cmpI t->R (.bin 2) r none->R .cmp ws none
 |cmp3 {ws a t r b r2}:R (.bin 2) ws (some (a,t::r))->0<=cmpI t->R (.bin 2) r (some (b,r2))->R .cmp ws (some (opN (cmpI t) 2::(a++b),r2))
 |leaf {t r x}:leafOf t=some x->R .unit (t::r) (some ([x],r))
 |par0 {t r}:leafOf t=none->isW t [40]=true->R (.bin 0) r none->R .unit (t::r) none
 |par1 {t r n t2 r2}:leafOf t=none->isW t [40]=true->R (.bin 0) r (some (n,t2::r2))->isW t2 [41]=false->R .unit (t::r) none
 |par2 {t r n t2 r2}:leafOf t=none->isW t [40]=true->R (.bin 0) r (some (n,t2::r2))->isW t2 [41]=true->R .unit (t::r) (some (n,r2))
 |bad {t r}:leafOf t=none->isW t [40]=false->nameOk t=false->R .unit (t::r) none
 |name {t t2 r}:leafOf t=none->isW t [40]=false->nameOk t=true->isW t2 [40]=false->R .unit (t::t2::r) (some ([nameN t.text],t2::r))
 |call0 {t t2 t3 r}:leafOf t=none->isW t [40]=false->nameOk t=true->isW t2 [40]=true->isW t3 [41]=true->R .unit (t::t2::t3::r) (some ([callN t.text 0],r))
 |call1 {t t2 t3 r res}:leafOf t=none->isW t [40]=false->nameOk t=true->isW t2 [40]=true->isW t3 [41]=false->R (.arg t.text [] 0) (t3::r) res->R .unit (t::t2::t3::r) res
 |arg0 {name acc n ws}:R (.bin 0) ws none->R (.arg name acc n) ws none
 |arg1 {name acc n ws x t r}:R (.bin 0) ws (some (x,t::r))->isW t [41]=true->R (.arg name acc n) ws (some (callN name (n+1)::(acc++x),r))
 |arg2 {name acc n ws x t r}:R (.bin 0) ws (some (x,t::r))->isW t [41]=false->isW t [44]=false->R (.arg name acc n) ws none
 |arg3 {name acc n ws x t r res}:R (.bin 0) ws (some (x,t::r))->isW t [41]=false->isW t [44]=true->R (.arg name (acc++x) (n+1)) r res->R (.arg name acc n) ws res
theorem Ends.tail{t:Tk}{r:List Tk}(h:Ends (t::r))(hk:t.kind≠0):Ends r:=by
 obtain⟨p,hp,hz⟩:=h;cases p with
 |nil=>
  injection hp with h1 h2;subst h1;exact absurd rfl hk
 |cons x p=>
  injection hp with h1 h2;exact⟨p,h2,fun t ht=>hz t (List.mem_cons_of_mem _ ht)⟩
theorem Ends.ne{r:List Tk}(h:Ends r):1<=r.length:=by
 obtain⟨p,rfl,-⟩:=h;simp
theorem Ends.last{t:Tk}{r:List Tk}(h:Ends (t::r))(hk:t.kind=0):t=endT/\r=[]:=by
 obtain⟨p,hp,hz⟩:=h;cases p with
 |nil=>
  injection hp with h1 h2;exact⟨h1,h2⟩
 |cons x p=>
  injection hp with h1 h2;subst h1;exact absurd hk (hz _ (List.mem_cons_self ..))
theorem Ends.split{r:List Tk}(h:Ends r):∃t q,r=t::q:=by
 cases r with
 |nil=>have:=h.ne;simp at this
 |cons t q=>exact⟨t,q,rfl⟩
theorem isW_kind{t:Tk}{s:List UInt8}(h:isW t s=true):t.kind=1\/t.kind=5:=by
 unfold isW at h;simp at h;exact h.1
theorem isW_ne{t:Tk}{s:List UInt8}(h:isW t s=true):t.kind≠0:=by
 rcases isW_kind h with h|h<;>omega
theorem leaf_ne{t:Tk}{x:M.Node}(h:leafOf t=some x):t.kind≠0:=by
 intro h0;unfold leafOf isW at h;simp[h0] at h
theorem name_kind{t:Tk}(h:nameOk t=true):t.kind=1:=by
 unfold nameOk at h;simp at h;exact h.1
theorem name_ne{t:Tk}(h:nameOk t=true):t.kind≠0:=by
 have:=name_kind h;omega
theorem cmp_ne{t:Tk}(h:0<=cmpI t):t.kind≠0:=by
 intro h0;unfold cmpI at h;rw[if_pos (by omega)] at h;omega
def made:Cat->Nat
 | .more _ acc=>acc.flatten.length+(acc.length-1)
 | .nots j=>j
 | .arg _ acc _=>acc.length+1
 |_=>0
def Pos:Cat->Prop
 | .more _ acc=>1<=acc.length/\1<=acc.flatten.length
 |_=>True
def eats:Cat->Nat
 | .more _ _=>0
 |_=>1
theorem sub_made(k:Nat):made (sub k)=0/\Pos (sub k)/\eats (sub k)=1:=by
 rcases k with _|_|k<;>exact⟨rfl,trivial,rfl⟩
theorem R.size{c:Cat}{ws:List Tk}{res:Res}(h:R c ws res):Pos c->∀n r,res=some (n,r)->n.length+r.length<=ws.length+made c/\r.length+eats c<=ws.length/\1<=n.length/\(Ends ws->Ends r):=by
 induction h with
 |bin0|more1|not0|cmp0|cmp2|par0|par1|bad|arg0|arg2=>intro _ n r h;cases h
 | @bin1 k ws n r res _ _ ih1 ih2=>
   intro _ n2 r2 h;obtain⟨a1,a2,a4,a3⟩:=ih1 (sub_made k).2.1 _ _ rfl;obtain⟨b1,b2,b4,b3⟩:=ih2 ⟨by simp,by simpa using a4⟩ _ _ h;rw[(sub_made k).1] at a1;rw[(sub_made k).2.2] at a2;simp[made,eats] at b1 b2⊢;exact⟨by omega,by omega,b4,fun h=>b3 (a3 h)⟩
 | @more0 k acc t r hw=>
   intro hp n2 r2 h;cases h;obtain⟨h1,h2⟩:=hp;refine⟨?_,?_,?_,fun h=>h⟩
   ·simp[made,build]<;>omega
   ·simp[eats]<;>omega
   ·simp[build] at h2⊢;omega
 | @more2 k acc t r n r2 res hw _ _ ih1 ih2=>
   intro hp n2 r3 h;obtain⟨h1,h2⟩:=hp;obtain⟨a1,a2,a4,a3⟩:=ih1 (sub_made k).2.1 _ _ rfl;obtain⟨b1,b2,b4,b3⟩:=ih2 ⟨by simp,by simp;omega⟩ _ _ h;rw[(sub_made k).1] at a1;refine⟨?_,?_,b4,fun h=>b3 (a3 (h.tail (isW_ne hw)))⟩
   ·simp[made] at b1⊢<;>omega
   ·simp[eats] at b2⊢<;>omega
 | @not1 j t r res hw _ ih=>
   intro _ n r h;obtain⟨b1,b2,b4,b3⟩:=ih trivial _ _ h;refine⟨?_,?_,b4,fun h=>b3 (h.tail (isW_ne hw))⟩
   ·simp[made] at b1⊢<;>omega
   ·simp[eats] at b2⊢<;>omega
 | @not2 j t r n r2 hw _ ih=>
   intro _ n2 r3 h;cases h;obtain⟨b1,b2,b4,b3⟩:=ih trivial _ _ rfl;refine⟨?_,?_,?_,b3⟩
   ·simp[made] at b1⊢<;>omega
   ·simp[eats] at b2⊢<;>omega
   ·simp;omega
 | @cmp1 ws a t r _ hc ih=>
   intro _ n2 r3 h;cases h;exact ih trivial _ _ rfl
 | @cmp3 ws a t r b r2 _ hc _ ih1 ih2=>
   intro _ n2 r3 h;cases h;obtain⟨a1,a2,a4,a3⟩:=ih1 trivial _ _ rfl;obtain⟨b1,b2,b4,b3⟩:=ih2 trivial _ _ rfl;refine⟨?_,?_,?_,fun h=>b3 ((a3 h).tail (cmp_ne hc))⟩
   ·simp[made] at a1 b1⊢<;>omega
   ·simp[eats] at a2 b2⊢<;>omega
   ·simp
 | @leaf t r x hl=>
   intro _ n2 r3 h;cases h;refine⟨?_,?_,?_,fun h=>h.tail (leaf_ne hl)⟩
   ·simp[made]<;>omega
   ·simp[eats]<;>omega
   ·simp
 | @par2 t r n t2 r2 hl hw _ hw2 ih=>
   intro _ n2 r3 h;cases h;obtain⟨b1,b2,b4,b3⟩:=ih trivial _ _ rfl;refine⟨?_,?_,b4,fun h=>(b3 (h.tail (isW_ne hw))).tail (isW_ne hw2)⟩
   ·simp[made] at b1⊢<;>omega
   ·simp[eats] at b2⊢<;>omega
 | @name t t2 r hl hw hn hw2=>
   intro _ n2 r3 h;cases h;refine⟨?_,?_,?_,fun h=>h.tail (name_ne hn)⟩
   ·simp[made]<;>omega
   ·simp[eats]<;>omega
   ·simp
 | @call0 t t2 t3 r hl hw hn hw2 hw3=>
   intro _ n2 r3 h;cases h;refine⟨?_,?_,?_,fun h=>((h.tail (name_ne hn)).tail (isW_ne hw2)).tail (isW_ne hw3)⟩
   ·simp[made]<;>omega
   ·simp[eats]<;>omega
   ·simp
 | @call1 t t2 t3 r res hl hw hn hw2 hw3 _ ih=>
   intro _ n2 r3 h;obtain⟨b1,b2,b4,b3⟩:=ih trivial _ _ h;refine⟨?_,?_,b4,fun h=>b3 ((h.tail (name_ne hn)).tail (isW_ne hw2))⟩
   ·simp[made] at b1⊢<;>omega
   ·simp[eats] at b2⊢<;>omega
 | @arg1 name acc n ws x t r _ hw ih=>
   intro _ n2 r3 h;cases h;obtain⟨b1,b2,b4,b3⟩:=ih trivial _ _ rfl;refine⟨?_,?_,?_,fun h=>(b3 h).tail (isW_ne hw)⟩
   ·simp[made] at b1⊢<;>omega
   ·simp[eats] at b2⊢<;>omega
   ·simp
 | @arg3 name acc n ws x t r res _ hw hw2 _ ih1 ih2=>
   intro _ n2 r3 h;obtain⟨a1,a2,a4,a3⟩:=ih1 trivial _ _ rfl;obtain⟨b1,b2,b4,b3⟩:=ih2 trivial _ _ h;refine⟨?_,?_,b4,fun h=>b3 ((a3 h).tail (isW_ne hw2))⟩
   ·simp[made] at a1 b1⊢<;>omega
   ·simp[eats] at a2 b2⊢<;>omega
def TotT(c:Cat)(m:Nat):Prop:=∀ws,ws.length<=m->Ends ws->∃res,R c ws res
theorem tot_more(k m:Nat)(hs:TotT (sub k) m):∀q ws,ws.length<=q->q<=m->Ends ws->∀acc,∃res,R (.more k acc) ws res
 |0,ws,hq,_,he,_=>by have:=he.ne;omega
 |q+1,ws,hq,hm,he,acc=>by
  obtain⟨t,r,rfl⟩:=he.split;cases hw:isW t (word k) with
  |false=>exact⟨_,.more0 hw⟩
  |true=>
   have he2:=he.tail (isW_ne hw);simp at hq;obtain⟨res,hr⟩:=hs r (by omega) he2;cases res with
   |none=>exact⟨_,.more1 hw hr⟩
   |some x=>
    obtain⟨n,r2⟩:=x;obtain⟨-,h2,-,h3⟩:=hr.size (sub_made k).2.1 _ _ rfl;obtain⟨res,h⟩:=tot_more k m hs q r2 (by omega) (by omega) (h3 he2) (acc++[n]);exact⟨_,.more2 hw hr h⟩
theorem tot_bin(k m:Nat)(hs:TotT (sub k) m):TotT (.bin k) m:=by
 intro ws hm he;obtain⟨res,hr⟩:=hs ws hm he;cases res with
 |none=>exact⟨_,.bin0 hr⟩
 |some x=>
  obtain⟨n,r⟩:=x;obtain⟨-,h2,-,h3⟩:=hr.size (sub_made k).2.1 _ _ rfl;obtain⟨res,h⟩:=tot_more k m hs r.length r (n_) (by omega) (h3 he) [n];exact⟨_,.bin1 hr h⟩
theorem tot_cmp(m:Nat)(hb:TotT (.bin 2) m):TotT .cmp m:=by
 intro ws hm he;obtain⟨res,hr⟩:=hb ws hm he;cases res with
 |none=>exact⟨_,.cmp0 hr⟩
 |some x=>
  obtain⟨a,r⟩:=x;obtain⟨-,h2,-,h3⟩:=hr.size trivial _ _ rfl;have he2:=h3 he;obtain⟨t,r,rfl⟩:=he2.split;by_cases hc:cmpI t<0
  ·exact⟨_,.cmp1 hr hc⟩
  ·have hc:0<=cmpI t:=by omega
   simp at h2;obtain⟨res,h⟩:=hb r (by omega) (he2.tail (cmp_ne hc));cases res with
   |none=>exact⟨_,.cmp2 hr hc h⟩
   |some y=>exact⟨_,.cmp3 hr hc h⟩
theorem tot_nots(m:Nat)(hb:TotT .cmp m):∀q ws,ws.length<=q->q<=m->Ends ws->∀j,∃res,R (.nots j) ws res
 |0,ws,hq,_,he,_=>by have:=he.ne;omega
 |q+1,ws,hq,hm,he,j=>by
  obtain⟨t,r,rfl⟩:=he.split;cases hw:isW t wNot with
  |true=>
   simp at hq;obtain⟨res,h⟩:=tot_nots m hb q r (by omega) (by omega) (he.tail (isW_ne hw)) (j+1);exact⟨_,.not1 hw h⟩
  |false=>
   obtain⟨res,hr⟩:=hb _ (by omega) he;cases res with
   |none=>exact⟨_,.not0 hw hr⟩
   |some y=>exact⟨_,.not2 hw hr⟩
theorem tot_arg(m:Nat)(hb:TotT (.bin 0) m)(name:List UInt8):∀q ws,ws.length<=q->q<=m->Ends ws->∀acc n,∃res,R (.arg name acc n) ws res
 |0,ws,hq,_,he,_,_=>by have:=he.ne;omega
 |q+1,ws,hq,hm,he,acc,n=>by
  obtain⟨res,hr⟩:=hb ws (by omega) he;cases res with
  |none=>exact⟨_,.arg0 hr⟩
  |some x=>
   obtain⟨x,r⟩:=x;obtain⟨-,h2,-,h3⟩:=hr.size trivial _ _ rfl;have he2:=h3 he;obtain⟨t,r,rfl⟩:=he2.split;cases hw:isW t [41] with
   |true=>exact⟨_,.arg1 hr hw⟩
   |false=>
    cases hw2:isW t [44] with
    |false=>exact⟨_,.arg2 hr hw hw2⟩
    |true=>
     simp at h2;obtain⟨res,h⟩:=tot_arg m hb name q r (by omega) (by omega) (he2.tail (isW_ne hw2)) (acc++x) (n+1);exact⟨_,.arg3 hr hw hw2 h⟩
theorem tot_unit(m:Nat)(hb:TotT (.bin 0) m):TotT .unit (m+1):=by
 intro ws hm he;obtain⟨t,r,rfl⟩:=he.split;simp at hm;cases hl:leafOf t with
 |some x=>exact⟨_,.leaf hl⟩
 |none=>
  cases hw:isW t [40] with
  |true=>
   have he1:=he.tail (isW_ne hw);obtain⟨res,hr⟩:=hb r hm he1;cases res with
   |none=>exact⟨_,.par0 hl hw hr⟩
   |some x=>
    obtain⟨n,r2⟩:=x;obtain⟨-,h2,-,h3⟩:=hr.size trivial _ _ rfl;obtain⟨t2,r2,rfl⟩:=(h3 he1).split;cases hw2:isW t2 [41] with
    |false=>exact⟨_,.par1 hl hw hr hw2⟩
    |true=>exact⟨_,.par2 hl hw hr hw2⟩
  |false=>
   cases hn:nameOk t with
   |false=>exact⟨_,.bad hl hw hn⟩
   |true=>
    have he1:=he.tail (name_ne hn);obtain⟨t2,r2,rfl⟩:=he1.split;cases hw2:isW t2 [40] with
    |false=>exact⟨_,.name hl hw hn hw2⟩
    |true=>
     have he2:=he1.tail (isW_ne hw2);obtain⟨t3,r3,rfl⟩:=he2.split;cases hw3:isW t3 [41] with
     |true=>exact⟨_,.call0 hl hw hn hw2 hw3⟩
     |false=>
      simp at hm;obtain⟨res,h⟩:=tot_arg m hb t.text m (t3::r3) (by simp;omega) (n_) he2 [] 0;exact⟨_,.call1 hl hw hn hw2 hw3 h⟩
theorem tot_all(m:Nat)(hu:TotT .unit m):TotT (.bin 2) m/\TotT .cmp m/\TotT (.nots 0) m/\TotT (.bin 1) m/\TotT (.bin 0) m:=by
 have h2:TotT (.bin 2) m:=tot_bin 2 m hu;have hc:=tot_cmp m h2;have hn:TotT (.nots 0) m:=fun ws hm he=>tot_nots m hc ws.length ws (n_) hm he 0;have h1:TotT (.bin 1) m:=tot_bin 1 m hn;exact⟨h2,hc,hn,h1,tot_bin 0 m h1⟩
theorem total:∀m,TotT .unit m
 |0=>fun ws hm he=>by have:=he.ne;omega
 |m+1=>tot_unit m (tot_all m (total m)).2.2.2.2
theorem total_or(ws:List Tk)(he:Ends ws):∃res,R (.bin 0) ws res:=(tot_all ws.length (total _)).2.2.2.2 ws (n_) he
end Ps
section
open Go Go.RowKit Go.BigFrame Go.Maps Go.WideMaps
def namedTo(scopes:List M.Scope)(name:ByteArray)(k:Nat):M.Val:=(((scopes.take k).reverse.findSome? fun s=>s name)).getD M.vNone
theorem namedTo_all(scopes:List M.Scope)(name:ByteArray):namedTo scopes name scopes.length=M.named scopes name:=by
 unfold namedTo M.named;rw[List.take_length]
theorem namedTo_step{scopes:List M.Scope}{name:ByteArray}{k:Nat}{s:M.Scope}(h:scopes[k]? =some s):namedTo scopes name (k+1)=match s name with|some v=>v|none=>namedTo scopes name k:=by
 unfold namedTo;rw[List.take_add_one,h,Option.toList_some,List.reverse_append,List.reverse_singleton,List.singleton_append,List.findSome?_cons];cases s name<;>rfl
theorem sv_form{sv:Value}{bs:List Nat}(h:OwnE ERef 182 w 0 NoB sv bs):∃A n,sv= .slice A bs.length n:=by
 obtain⟨A,n,e⟩:=h.shape;exact⟨A,n,e⟩
theorem named_any(g:Nat)(Mu S:Nat->Prop)(c:M.Cx)(st:M.St)(p:PV)(bs:List Nat)(F u:Nat)(name:ByteArray)(w:World)(hn:name.size<=1048576)(hk:Blk w g 77 #[.int .u8 (p.d.f.toNat:Int),.int .u8 (p.d.c.toNat:Int),.int .u8 (p.d.r.toNat:Int),.int .u8 (p.d.e.toNat:Int),.int .u8 (p.d.s.toNat:Int),p.v,p.tv,.string p.now,.int .i64 (F:Nat),.int .i64 (u:Nat),p.rv,.bool p.stop,p.sv])(hp:PlIn w g Mu S c st p bs):
 Calls Tryz.prog 94 #[.pointer (some ⟨g,0,none⟩),.string name] w fun e w'=>e= .returned (valV (M.named st.scopes name))/\Below w.heap.size w w':=by
 obtain⟨A,nc,hsv⟩:=sv_form hp.scopes;have hsc:=hp.scopes;have hlen:=hp.maps.1;have hso:=hp.scopesOk;rw[hsv] at hk hsc;have HB:=q_ hk;have HSC:=q_ hsc;have HM:=q_ hp.maps.2;have HMINE:=q_ hp.mine;have K1:=q_ (Blk.new w 37 #[.int .i64 0,.string ⟨#[]⟩,.int .i64 0,.bool false]);have B1:=q_ ((Below.refl _ w).alloc (n_) (.cells #[.int .i64 0,.string ⟨#[]⟩,.int .i64 0,.bool false] 37));have z:=(hk.alloc (.cells #[.int .i64 0,.string ⟨#[]⟩,.int .i64 0,.bool false] 37)).cell;have HALL:=q_ (namedTo_all st.scopes name);clear hk hsc hp;go_enter Tryz.func94,Tryz.ntmps94;go_wp2_with fail;generalize w.alloc (.cells #[.int .i64 0,.string ⟨#[]⟩,.int .i64 0,.bool false] 37)=w1 at K1 B1 z⊢;clear z;go_loopw [5] (fun y wr=>∃k:Nat,k<=st.scopes.length/\y= .int .i64 ((k:Int)-1)/\namedTo st.scopes name k=M.named st.scopes name/\Below w1.heap.size w1 wr) (fun y _=>(intOf y+1).toNat)
 case atStart=>exact⟨st.scopes.length,n_,rfl,HALL.o,Below.refl _ _⟩
 case round=>
  obtain⟨k,hk,rfl,hf,hb⟩:=hrel;have HF:=q_ hf;have HBR:=q_ hb;have BW:=q_ (B1.o.trans (hb.mono B1.o.size));have KR:=q_ (K1.o.below hb K1.o.lt);clear hf hb;cases k with
  |zero=>
   have HE:=q_ (show M.named st.scopes name=M.vNone by rw[<-HF.o];rfl);have q1:decide ((0:Int)<=((0:Nat):Int)-1)=false:=by decide
   go_wp2_with (refine wpList_store_V rfl (.tmp 4) (.tmp 32) rfl w.heap.size M.vNone (by rfl) (by rfl) (KR.o) rfl ?_;intro w3 k3 g3;have K3:=q_ k3;have B3:=q_ (below_gr BW.o g3 (by omega));clear k3 g3)
   (try simp only[Exit.inBlock,Exit.then]);exact bodyPost_ret (val_res rfl K3.o rfl) rfl ⟨by rw[HE.o],B3.o⟩
  |succ k=>
   rw[show((k+1:Nat):Int)-1=(k:Int) by omega];have y:=(HB.o.below BW.o HB.o.lt).cell;have sc:=HSC.o.below BW.o;obtain⟨gs,cap,b,ub,e1,hbk,hbr,hbc,-,-⟩:=sc.in1 (k:=k) rfl (by omega);injection e1 with e1 e2 e3;subst e1 e3;obtain⟨e4,-⟩:=hbr;simp at e4;subst e4;obtain⟨s,hs⟩:∃s,st.scopes[k]? =some s:=⟨_,List.getElem?_eq_getElem (by omega)⟩
   have hmp:=(HM.o k b s hbk hs).below BW.o (HMINE.o b (List.mem_of_getElem? hbk)).2.1;have hl:=hmp.look str_law Tryz.underlying182 str_inj (str_key name hn) (Tryz.zeroValue37 wr) true;have h1:=namedTo_step (name:=name) hs;cases hq:s name with
   |some v=>
    rw[hq] at hl h1;simp only[if_true,Option.map_some,Option.getD_some,Option.isSome_some,valV] at hl;have HE:=q_ (show M.named st.scopes name=v by rw[<-HF.o,h1]);have KR2:=q_ (KR.o.alloc (.cells #[.int .i64 v.kind,.string v.text,.int .i64 v.num,.bool v.truth] 37));have BW2:=q_ (BW.o.alloc BW.o.size (.cells #[.int .i64 v.kind,.string v.text,.int .i64 v.num,.bool v.truth] 37));clear hq h1 sc hmp;go_wp2_with (refine wpList_store_V rfl (.tmp 4) (.tmp 31) rfl w.heap.size v (by rfl) (by rfl) (KR2.o) rfl ?_;intro w3 k3 g3;have K3:=q_ k3;have B3:=q_ (below_gr BW2.o g3 (by omega));clear k3 g3)
    (try simp only[Exit.inBlock,Exit.then]);exact bodyPost_ret (val_res rfl K3.o rfl) rfl ⟨by rw[HE.o],B3.o⟩
   |none=>
    rw[hq] at hl h1;simp only[if_true,Option.map_none,Option.getD_none,Option.isSome_none] at hl;have H2:=q_ (show namedTo st.scopes name k=M.named st.scopes name by rw[<-HF.o,h1]);clear hq h1 sc hmp;go_wp2;go_roundw
    case rel=>exact⟨k,by omega,by go_num,H2.o,HBR.o.alloc HBR.o.size _⟩
    case measure=>simp[intOf]
end
end Go.Proofs.YtnocnbklhikmnaaGreatDoor
