/- Part 30 of the proof. -/
import Derived.Test.YtnocnbklhikmnaaGreatDoorW22
import Derived.Test.YtnocnbklhikmnaaGreatDoorW29
set_option linter.unusedVariables false
set_option maxRecDepth 1000000
set_option maxHeartbeats 16000000
namespace Go.Proofs.YtnocnbklhikmnaaGreatDoor.Rk
open Go
def recHead(o0 o1:Oper):Option (Tmp×Tmp):=
 match o0.op,o0.dst,o0.guard,o1.op,o1.dst,o1.guard with
 | .call {callee:= .builtin .recover,args:=⟨[]⟩,..},some d0,none,.assign (.tmp t),some d1,none=>if t=d0 then some (d0,d1) else none
 |_,_,_,_,_,_=>none
def dcall(P:Program)(fuel:Nat):DCallee:=fun f args p s=>
 match P.funcs[f]?with
 |some fn=>match fn.body with
  |some (.seq (.region _ ⟨[o0,o1]⟩ false) rest)=>match recHead o0 o1 with
   |some (d0,d1)=>if args.length<=fn.ntmps/\fn.results.toList.isEmpty then
     match ev P (fun _ _ _=>none) fuel false rest (((initT args 0 ⟨fn.ntmps,.leaf,[]⟩).putT d0 (p.getD .nili)).putT d1 (((initT args 0 ⟨fn.ntmps,.leaf,[]⟩).putT d0 (p.getD .nili)).get d0)) {s with log:=[]} with
     |some (e,a,s1)=>match e,a.defs with
      | .normal,[]=>some (none,s.cut s1)
      | .ret,[]=>some (none,s.cut s1)
      |_,_=>none
     |none=>none
    else none
   |none=>none
  |_=>none
 |none=>none
section
variable {P:Program}
theorem csound_none:CSound P (fun _ _ _=>none):=fun f args s res s' h=>by cases h
theorem dsound(hP:plainFuncs P=true)(hm:P.follows .mixedOrders=true)(fuel:Nat):DSound P (dcall P fuel):=by
 intro f args p s p' s' h hwf;unfold dcall at h;split at h
 ·rename_i fn hf
  split at h
  ·rename_i id o0 o1 rest hb
   split at h
   ·rename_i d0 d1 hh
    split at h
    ·rename_i hlen
     obtain⟨hlen,hres⟩:=hlen;split at h
     ·rename_i e aa1 s1 hev
      obtain⟨m1,k1⟩:=(ev_ok hm csound_none fuel).1 false _ _ _ _ _ _ hev hwf
      have main:(e= .normal\/e= .ret)->aa1.defs=[]->p'=none->s'=s.cut s1->Mono s s'/\∀(ρ:Env) (T:Nat->Nat->Prop) (w:World) (vs:Array Value) (u:FrameMode),Pre ρ T s s' w->VRL ρ args vs.toList->DM ρ p u->
       (∀w1,(callFunc f vs).run P w1= .ok (.enter f vs) w1)/\∀n,CallsDIn Fence.wide n P f vs u w (fun e u' w'=>(∃v,e= .returned v)/\∃ρ',Post ρ T s w ρ' s' w'/\DM ρ' p' (settle u')):=by
       intro he hdef hp' hs';subst hp' hs';refine⟨m1.cut hwf,fun ρ T w vs u hp hargs hu=>⟨fun w1=>enters hP hf hb vs w1,fun n=> ?_⟩⟩;have hp0:=hp.cut m1;refine callsDIn_of_wpSIn hf hb trivial (fun c₀ cs hc0=> ?_)
       obtain⟨rv,cs1,u1,hrv,hcs1,hu1,hrec⟩:∃rv cs1 u1,VR ρ (p.getD .nili) rv/\cs1={c₀ with mode:=u1}::cs/\DM ρ none (settle u1)/\(recoverD (c₀::cs)=some (rv,cs1)\/recoverD (c₀::cs)=none/\rv= .nilIface/\cs1=c₀::cs):=by
        cases p with
        |none=>
         cases u with
         |run=>exact hu.elim
         |panicking ch=>exact hu.elim
         |returning=>
          refine⟨.nilIface,c₀::cs,.returning,.nili,by rw[<-hc0],trivial,.inr ⟨?_,rfl,rfl⟩⟩;simp[recoverD,hc0]
        |some v=>
         cases u with
         |run=>exact hu.elim
         |returning=>exact hu.elim
         |panicking ch=>
          obtain⟨v',rfl,hv⟩:=hu;refine⟨v',_,.panicking [{v:=v',recovered:=true}],hv,rfl,trivial,.inl ?_⟩;simp[recoverD,hc0]
       unfold recHead at hh;split at hh
       ·rename_i at0 d0' t d1' ho0 hd0 hg0 ho1 hd1 hg1
        split at hh
        ·rename_i htd
         subst htd;cases hh;refine wpSIn_seq (wpSIn_region ?_);have hst:=start_ok (m:=fn.ntmps) hargs hlen
         have hput:∀(a:Act) (aa:AAct) (d:Tmp) (v:AV) (v':Value),ActR ρ aa a->VR ρ v v'->ActR ρ (aa.putT d v) (a.put (some d) v'):=fun a aa d v v' ha hv=>by
          have:=ha.put (some d) hv;exact this
         have h1:=hput _ _ d0 (p.getD .nili) rv hst hrv;have h2:=hput _ _ d1 _ _ h1 (h1.get d0)
         have hev0:∀a:Act,(execOp a.eval o0).run P w= .ok .recover w:=fun a=>by
          unfold execOp;rw[ho0];simp[resolve,invoke,builtin]
          try rfl
         have hw0:∀ts,Region.wanted o0 (yielded #[o0,o1] ts)=true:=fun ts=>by unfold Region.wanted;rw[hg0]
         have hw1:∀ts,Region.wanted o1 (yielded #[o0,o1] ts)=true:=fun ts=>by unfold Region.wanted;rw[hg1]
         have hev1:∀a:Act,(execOp a.eval o1).run P w= .ok (.value (a.eval (.tmp d0))) w:=fun a=>by
          unfold execOp;rw[ho1];rfl
         have e0:(#[o0,o1]:Array Oper)[0]? =some o0:=rfl;have e1:(#[o0,o1]:Array Oper)[1]? =some o1:=rfl
         have second:wpOpsSIn Fence.wide n P #[o0,o1] (Exit.thenS (rest.wpSIn Fence.wide n P (bodyPostS P fn c₀ cs fun e u' w'=>(∃v,e=Ending.returned v)/\∃ρ',Post ρ T s w ρ' (s.cut s1) w'/\DM ρ' none (settle u'))) (bodyPostS P fn c₀ cs fun e u' w'=>(∃v,e=Ending.returned v)/\∃ρ',Post ρ T s w ρ' (s.cut s1) w'/\DM ρ' none (settle u'))) [1]
          (({tmps:=vs++Array.replicate (fn.ntmps-vs.size) undef,defers:=[]}:Act).put (some d0) rv) cs1 w:=by
          simp only[wpOpsSIn,e1,hw1,if_true,hev1,hd1];refine⟨fun _ _=>trivial,?_⟩;refine wpSIn_of_wpIn rfl (wpIn_mono (k1 ρ T w _ none n (fun _=>rfl) hp0 h2) ?_);rintro E a2 w2 ⟨ρ2,g1,g2,g3⟩;have hpost:=Post.cut m1 hp g1
          have hds:a2.defers=[]:=by
           have:=g2.defs;rw[hdef] at this;generalize a2.defers=dd at this;cases this;rfl
          have hfr:fn.results=#[]:=by
           have:fn.results.toList=[]:=by simpa using hres
           rw[<-Array.toList_inj];exact this
          have r1:=results_none hfr a2.tmps P w2
          have fin:a2.defers=[]/\∃u',cs1={c₀ with mode:=u'}::cs/\∃v,(results fn a2.tmps).run P w2= .ok v w2/\((∃v',Ending.returned v= .returned v')/\∃ρ',Post ρ T s w ρ' (s.cut s1) w2/\DM ρ' none (settle u')):=
           ⟨hds,u1,hcs1,_,r1,⟨_,rfl⟩,ρ2,hpost,hu1.mono g1.ext⟩
          rcases he with rfl|rfl
          ·cases E<;>first|exact g3.elim|exact fin
          ·cases E<;>first|exact g3.elim|exact fin
         show wpOpsSIn Fence.wide n P #[o0,o1] _ [0,1] _ _ _;rw[wpOpsSIn];simp only[e0,hw0,if_true,hev0,hd0];refine⟨fun _ _=>trivial,?_⟩;rcases hrec with hrec|⟨hrec,hrv0,hcs0⟩
         ·simp only[hrec]
          exact second
         ·simp only[hrec]
          rw[<-hrv0,<-hcs0];exact second
        ·cases hh
       ·cases hh
      split at h
      ·rename_i hd
       cases h;exact main (.inl rfl) hd rfl rfl
      ·rename_i hd
       cases h;exact main (.inr rfl) hd rfl rfl
      ·cases h
     ·cases h
    ·cases h
   ·cases h
  ·cases h
 ·cases h
end
end Go.Proofs.YtnocnbklhikmnaaGreatDoor.Rk
namespace Go.Proofs.YtnocnbklhikmnaaGreatDoor
variable{e:Ending}{kl:List Int}
section
open Go Go.RowKit Go.BigFrame
theorem word_any(s:ByteArray)(w:World)(hs:s.size<=100000)(h0:0<s.size):
 Calls Tryz.prog 127 #[.string s] w fun e w'=>WordOut s e/\Below w.heap.size w w':=by
 cases h1:Ad.letter s[0] with
 |true=>exact word_name s w hs h0 h1
 |false=>
  cases h2:Ad.digit s[0] with
  |true=>exact word_num s w hs h0 h1 h2
  |false=>
   by_cases h3:s[0].toNat=34
   ·exact word_text s w hs h0 h1 h2 h3
   ·by_cases h4:s[0].toNat=64
    ·exact word_path s w hs h0 h1 h2 h4
    ·exact word_sign s w hs h0 h1 h2 h3 h4
end
namespace M
theorem okT_inv{d:Nat}{cls:Int}{x:Node}{ks:List Tree}(h:okT (d+1) cls (.mk x ks)=true):classOf x.op=cls/\right x=true/\x.n=ks.length/\∀(i:Nat) (k:Tree),ks[i]? =some k->okT d (wanted x i) k=true:=by
 unfold okT at h;simp only[Bool.and_eq_true,decide_eq_true_eq,List.all_eq_true] at h;refine⟨h.1.1.1,h.1.1.2,h.1.2,fun i k hk=> ?_⟩;have:=h.2 (k,i) (by rw[List.mem_zipIdx_iff_getElem?];exact hk);exact this
theorem right_least{x:Node}(h:right x=true):leastN x.op<=x.n:=by
 unfold right at h;simp only[Bool.and_eq_true,decide_eq_true_eq] at h;exact h.1.1.2
theorem kid_some{ks:List Tree}{i:Nat}(h:i<ks.length):ks[i]? =some (kid ks i):=by
 unfold kid;rw[List.getD_eq_getElem?_getD,List.getElem?_eq_getElem h];rfl
theorem class3{op:Int}(h:classOf op=3):7<=op/\op<=23:=by
 unfold classOf at h;split at h
 ·cases h
 ·split at h
  ·cases h
  ·split at h
   ·assumption
   ·cases h
theorem wanted_3{x:Node}{i:Nat}(h:x.op≠0)(h1:x.op≠1):wanted x i=3:=by
 unfold wanted;rw[if_neg h,if_neg (by omega)]
end M
section
open Go Go.RowKit Go.BigFrame Go.Maps Go.WideMaps
def all3(kl:List Int):Bool:=kl.all (fun k=>decide (k=3))
def TruthP(kl:List Int)(e:Ending):Prop:=if all3 kl=true then e= .returned (.int .i64 3) else∃ch,e= .panicked ch/\FaultP ch
theorem TruthP.yes(h:all3 kl=true)(he:e= .returned (.int .i64 3)):TruthP kl e:=by unfold TruthP;rw[if_pos h];exact he
theorem TruthP.no(h:all3 kl=false)(he:∃ch,e= .panicked ch/\FaultP ch):TruthP kl e:=by unfold TruthP;rw[if_neg (by rw[h];simp)];exact he
theorem all3_yes(h:∀j,j<kl.length->kl[j]? =some 3):all3 kl=true:=by
 unfold all3;rw[List.all_eq_true];intro x hx;obtain⟨j,hj,rfl⟩:=List.getElem_of_mem hx;have:=h j hj;rw[List.getElem?_eq_getElem hj] at this;simpa using this
theorem all3_no{k:Nat}{x:Int}(h:kl[k]? =some x)(hx:x≠3):all3 kl=false:=by
 unfold all3;rw[List.all_eq_false];exact⟨x,List.mem_of_getElem? h,by simpa using hx⟩
theorem truth_any(b12 b6:Nat)(at_:Int)(kl:List Int)(A:Option Addr)(c:Nat)(S:Nat->Prop)(w:World)(h12:Blk w b12 147 #[.slice A kl.length c])(hl:LAt EIntU w S A kl.length kl)(h6:Blk w b6 3 #[.int .i64 at_])(hlen:kl.length<=1048576):
 Calls Tryz.prog 83 #[.pointer (some ⟨b12,0,none⟩),.pointer (some ⟨b6,0,none⟩)] w fun e w'=>TruthP kl e/\w'=w:=by
 obtain⟨n,hn⟩:∃n,n=kl.length:=⟨_,rfl⟩
 rw[<-hn] at h12 hl hlen;have HN:=q_ hn;have HL:=q_ hl;have c12:=fun i=>h12.cell i;have c6:=fun i=>h6.cell i;clear hn hl h12 h6;go_enter Tryz.func83,Tryz.ntmps83;go_wp2_with fail;go_loopw [7] (fun y wr=>∃k:Nat,k<=n/\y= .int .i64 k/\wr=w/\∀j,j<k->kl[j]? =some 3) (fun y _=>n-(intOf y).toNat)
 case atStart=>exact⟨0,by omega,rfl,rfl,fun j hj=>by omega⟩
 case round=>
  obtain⟨k,hk,rfl,rfl,hall⟩:=hrel;have HA:=q_ hall;clear hall;by_cases hlt:k<n
  ·have q1:decide ((k:Int)<(n:Int))=true:=by simp;omega
   obtain⟨ad,x,u,rfl,hbS,hx,hr,hc⟩:=HL.o.in1 rfl hlt;obtain⟨e4,-⟩:=hr;simp at e4;subst e4;have HX:=q_ hx;clear hx;by_cases h3:x=3
   ·have H3:=q_ h3
    have q3:(x==3)=true:=by simp[h3]
    clear h3;go_wp2_with fail;refine(want_yes 82 _ _).mono ?_
    rintro e w7 ⟨rfl,h7⟩;have h7:=h7.symm;subst h7;go_wp2;go_roundw
    case rel=>exact⟨k+1,by omega,by go_num,trivial,fun j hj=>by
     rcases Nat.lt_or_ge j k with h|h
     ·exact HA.o j h
     ·obtain rfl:j=k:=by omega
      rw[HX.o,H3.o]⟩
    case measure=>simp[intOf];omega
   ·have H3:=q_ h3
    have q3:(x==3)=false:=by simp[h3]
    clear h3;go_wp2_with fail;refine(want_no 82 _ (by decide) _).mono ?_
    rintro e w7 ⟨⟨ch,rfl,hf⟩,h7⟩;have h7:=h7.symm;subst h7;go_wp2;exact⟨rfl,TruthP.no (all3_no HX.o H3.o) ⟨ch,rfl,hf⟩,rfl⟩
  ·have q1:decide ((k:Int)<(n:Int))=false:=by simp;omega
   have HY:=q_ (all3_yes (kl:=kl) (fun j hj=>HA.o j (by have:=HN.o;omega)));go_wp2;go_ret;exact⟨TruthP.yes HY.o rfl,rfl⟩
theorem right_least{x:M.Node}(h:M.right x=true):M.leastN x.op<=x.n:=by
 unfold M.right at h;simp only[Bool.and_eq_true,Bool.or_eq_true,decide_eq_true_eq] at h;exact h.1.1.2
end
section
open Go Go.RowKit
namespace M
def callR(c:Cx)(m:Msg)(scopes:List Scope)(d:Nat)(x:Node)(ks:List Tree):Except Int Val×Nat:=
 match valsL (evalE c m scopes d) (if skips x.text=true then ks.tail else ks) with
 |(.error e,k)=>(.error e,k)
 |(.ok vs,k)=>(callV c m x.text (headX ks) (if skips x.text=true then vNone::vs else vs),k)
theorem evalE_call{c:Cx}{m:Msg}{scopes:List Scope}{d:Nat}{x:Node}{ks:List Tree}(h:x.op=23):evalE c m scopes (d+1) (.mk x ks)=((callR c m scopes d x ks).1,(callR c m scopes d x ks).2+1):=by
 conv=>lhs;unfold evalE
 rw[if_neg (by omega),if_neg (by omega),if_neg (by omega),if_neg (by omega),if_neg (by omega),if_pos h];unfold callR;split
 ·rename_i e k h1;rw[h1]
 ·rename_i vs k h1;rw[h1]
theorem evalE_step(c:Cx)(m:Msg)(scopes:List Scope)(d:Nat)(x:Node)(ks:List Tree):1<=(evalE c m scopes (d+1) (.mk x ks)).2:=by
 unfold evalE;split
 ·exact n_
 ·split
  ·exact n_
  ·split
   ·exact n_
   ·split
    ·exact n_
    ·split
     ·exact n_
     ·split
      ·split<;>simp
      ·split
       ·simp
       ·split
        ·simp
        ·split
         ·simp
         ·split<;>simp
def pre(vs:List Val)(K:Nat):Except Int (List Val)×Nat->Except Int (List Val)×Nat
 |(.error e,j)=>(.error e,K+j)
 |(.ok l,j)=>(.ok (vs++l),K+j)
theorem pre_nil(r:Except Int (List Val)×Nat):pre [] 0 r=r:=by
 obtain⟨r,j⟩:=r;cases r<;>simp[pre]
theorem pre_end(vs:List Val)(K:Nat)(f:Tree->Except Int Val×Nat):pre vs K (valsL f [])=(.ok vs,K):=by
 unfold valsL pre;simp
theorem pre_ok{vs:List Val}{K k:Nat}{f:Tree->Except Int Val×Nat}{t:Tree}{l:List Tree}{v:Val}(h:f t=(.ok v,k)):pre vs K (valsL f (t::l))=pre (vs++[v]) (K+k) (valsL f l):=by
 conv=>lhs;unfold valsL
 rw[h];cases hl:valsL f l with
 |mk r j=>
  cases r with
  |error e=>simp[pre];omega
  |ok l'=>simp[pre];omega
theorem pre_err{vs:List Val}{K k:Nat}{f:Tree->Except Int Val×Nat}{t:Tree}{l:List Tree}{e:Int}(h:f t=(.error e,k)):pre vs K (valsL f (t::l))=(.error e,K+k):=by
 conv=>lhs;unfold valsL
 rw[h];rfl
theorem pre_most{vs:List Val}{K k:Nat}{f:Tree->Except Int Val×Nat}{t:Tree}{l:List Tree}{r:Except Int Val}(h:f t=(r,k)):K+k<=(pre vs K (valsL f (t::l))).2:=by
 cases r with
 |error e=>rw[pre_err h];exact n_
 |ok v=>
  rw[pre_ok h];cases valsL f l with
  |mk r j=>cases r<;>simp[pre]
theorem callR_2(c:Cx)(m:Msg)(scopes:List Scope)(d:Nat)(x:Node)(ks:List Tree):(callR c m scopes d x ks).2=(valsL (evalE c m scopes d) (if skips x.text=true then ks.tail else ks)).2:=by
 unfold callR;split<;>(rename_i h;rw[h])
theorem cut_le{α:Type}{F u:Nat}{r:Except Int α×Nat}(h:u+r.2<=F):cut F u r=(r.1,u+r.2):=if_pos h
theorem cut_gt{α:Type}{F u:Nat}{r:Except Int α×Nat}(h:¬u+r.2<=F):cut F u r=(.error 83,F):=if_neg h
theorem cut_step{α:Type}{F u:Nat}{r:Except Int α×Nat}(h:u<F):cut F u (r.1,r.2+1)=cut F (u+1) r:=by
 unfold cut;by_cases hq:u+1+r.2<=F
 ·rw[if_pos hq,if_pos (by show u+(r.2+1)<=F;omega),show u+(r.2+1)=u+1+r.2 by omega]
 ·rw[if_neg hq,if_neg (by show¬u+(r.2+1)<=F;omega)]
end M
theorem evalE_pos(c:M.Cx)(m:M.Msg)(scopes:List M.Scope)(d:Nat)(x:M.Node)(ks:List M.Tree):1<=(M.evalE c m scopes (d+1) (.mk x ks)).2:=M.evalE_step c m scopes d x ks
end
section
open Go Go.RowKit Go.BigFrame Go.Maps Go.WideMaps
theorem enters_etab:Enters Tryz.prog 232:=fun _ _=>rfl
theorem etab1_any(tn:ByteArray)(tv:Value)(nb:Nat)(name:ByteArray)(w:World)(hb:Blk w nb 9 #[.string name]):
 Calls Tryz.prog 232 #[.agg #[.string tn,tv],.pointer (some ⟨nb,0,none⟩)] w fun e w'=>e= .returned (.bool (M.eqT tn name))/\Below w.heap.size w w':=by
 have B1:=q_ ((Below.refl _ w).alloc (n_) (.cells #[.string tn,tv] 200));have z:=(hb.alloc (.cells #[.string tn,tv] 200)).cell;have z2:=(Blk.new w 200 #[.string tn,tv]).cell;have he:=eqT_text tn name;generalize M.eqT tn name=q at*;clear hb;go_enter Tryz.func232,Tryz.ntmps232;go_wp2;go_ret;exact⟨rfl,B1.o⟩
theorem tab_first{ts:List M.Table}{name:ByteArray}(h:M.hasT (tnames ts) name=true):∃i:Nat,i<ts.length/\firstI ts.length (fun k=>M.eqT ((ts[k]?).elim ByteArray.empty M.Table.name) name)=(i:Int)/\ts[i]? =some (M.tableOf ts name):=by
 cases hf:ts.find? (fun t=>M.eqT t.name name) with
 |none=>
  rw[List.find?_eq_none] at hf;simp only[M.hasT,tnames,List.any_eq_true,List.mem_map] at h;obtain⟨_,⟨t,ht,rfl⟩,h⟩:=h;refine absurd ?_ (hf t ht);rw[eqT_iff_] at h⊢;exact h.symm
 |some t=>
  obtain⟨h1,i,hi,h2,h3⟩:=List.find?_eq_some_iff_getElem.1 hf;refine⟨i,hi,firstI_hit hi ?_ fun j hj=> ?_,?_⟩
  ·rw[List.getElem?_eq_getElem hi,h2]
   exact h1
  ·rw[List.getElem?_eq_getElem (by omega)]
   have:=h3 j hj;simpa using this
  ·unfold M.tableOf
   rw[hf,List.getElem?_eq_getElem hi,h2];rfl
theorem tab_res{fn:Func}{p:Tmp}(hf:fn.results=#[.cell p 200]){W:World}{tmps:Array Value}{g:Nat}{cs:Array Value}(hW:Blk W g 200 cs)(hl:cs.size=2)(h2:tmps.getD p undef= .pointer (some ⟨g,0,none⟩)):
 (results fn tmps).run Tryz.prog W= .ok (.agg cs) W:=by
 rw[results_cell1 hf,h2];have hi:(Tryz.prog.info? 200).map (·.size)=some cs.size:=by rw[hl];kernel_rfl
 have h:=run_loadVar_row (P:=Tryz.prog) W g 200 200 cs (0,0) _ hW Tryz.underlying200 rfl hi;simp only[asAddr,Sem.run_pure,Result.andThen_ok,h]
theorem table_at(g:Nat)(S:Nat->Prop)(ts:List M.Table)(p:PV)(F u:Nat)(name:ByteArray)(w:World)(a:Addr)(n i:Nat)(nm:ByteArray)(tv:Value)(hfi:firstI ts.length (fun k=>M.eqT ((ts[k]?).elim ByteArray.empty M.Table.name) name)=(i:Int))(hi:i<ts.length)(htv:p.tv= .slice (some a) ts.length n)(hok:SOk (some a) ts.length n)(hl:LAt ETable w S (some a) ts.length ts)(hS:∀b,S b->b<w.heap.size)(hbS:a.block<w.heap.size)(hc1:w.cell? (a.add (i*2))=some (.string nm))(hc2:w.cell? ⟨(a.add (i*2)).block,(a.add (i*2)).off+1,none⟩=some tv)(hone:tv.oneCell'=true)(hk:Blk w g 77 #[.int .u8 (p.d.f.toNat:Int),.int .u8 (p.d.c.toNat:Int),.int .u8 (p.d.r.toNat:Int),.int .u8 (p.d.e.toNat:Int),.int .u8 (p.d.s.toNat:Int),p.v,p.tv,.string p.now,.int .i64 (F:Nat),.int .i64 (u:Nat),p.rv,.bool p.stop,p.sv]):
 Calls Tryz.prog 169 #[.pointer (some ⟨g,0,none⟩),.string name] w fun e w'=>e= .returned (.agg #[.string nm,tv])/\Below w.heap.size w w':=by
 have hmf:∀(fn:Fn) (first cap:Array Value) (w:World),(Instr.makeFunc fn first cap).run Tryz.prog w= .ok (.func fn first cap) w:=fun _ _ _ _=>rfl;rw[htv] at hk;have HB:=q_ hk;have N1:=q_ ((Blk.new w 9 #[.string name]).alloc (.cells #[.string ⟨#[]⟩,.slice none 0 0] 200));have s0:(w.alloc (.cells #[.string name] 9)).heap.size=w.heap.size+1:=by simp
 have K1:=q_ (Blk.new (w.alloc (.cells #[.string name] 9)) 200 #[.string ⟨#[]⟩,.slice none 0 0]);rw[s0] at K1;have B1:=q_ (((Below.refl _ w).alloc (n_) (.cells #[.string name] 9)).alloc (by omega) (.cells #[.string ⟨#[]⟩,.slice none 0 0] 200))
 have HK:=q_ (fun(W:World) (h:Below w.heap.size w W) (hb:Blk W w.heap.size 9 #[.string name])=>idxTab_any ETable rfl (fun k=>M.eqT ((ts[k]?).elim ByteArray.empty M.Table.name) name) (fun _ W'=>Below W.heap.size W W') 232 #[.pointer (some ⟨w.heap.size,0,none⟩)] (some a) ts.length n ts S W enters_etab hok (Below.refl _ _) (fun k W' hW=>(hl.below h hS).below hW (fun b hb=>Nat.lt_of_lt_of_le (hS b hb) h.size)) (fun k W' x u v hk hW hx2 hr=>by
  obtain⟨A3,c3,e3,hn3,-,-⟩:=ETable.inv hr;injection e3 with e3 e4;injection e4 with e4;subst e3 e4;refine(etab1_any x.name _ w.heap.size name W' (hb.below hW hb.lt)).mono ?_
  rintro e w' ⟨rfl,h⟩;refine⟨?_,hW.trans (h.mono hW.size)⟩;rw[hx2];rfl))
 rw[hfi] at HK;have z:=(HB.o.below B1.o HB.o.lt).cell;have C1:=q_ (fun(W:World) (h:Below w.heap.size w W)=>(h.cell (p:=a.add (i*2)) (by rw[block_of_add];exact hbS)).trans hc1);have C2:=q_ (fun(W:World) (h:Below w.heap.size w W)=>(h.cell (p:=⟨(a.add (i*2)).block,(a.add (i*2)).off+1,none⟩) (by show(a.add (i*2)).block<_;rw[block_of_add];exact hbS)).trans hc2);have hm:=hok.le;clear hk hl hfi hok s0 hc1 hc2;go_enter Tryz.func169,Tryz.ntmps169;go_wp2_with fail;generalize (w.alloc (.cells #[.string name] 9)).alloc (.cells #[.string ⟨#[]⟩,.slice none 0 0] 200)=w1 at N1 K1 B1 z⊢;refine(HK.o w1 B1.o N1.o).mono ?_
 rintro e w2 ⟨rfl,-,hb⟩;have B2:=q_ (B1.o.trans (hb.mono B1.o.size));have K2:=q_ (K1.o.below hb K1.o.lt);clear hb z;have z:=(HB.o.below B2.o HB.o.lt).cell;have hc1:=C1.o _ B2.o;have hc2:=C2.o _ B2.o;go_wp2_with (refine wpList_store_blk (cs':=#[.string nm,tv]) rfl 200 (.tmp 4) (.tmp 18) rfl (w.heap.size+1) (by rfl) (by rfl) K2.o rfl (by kernel_rfl) (by simp[Value.oneCell'];exact hone) ?_;intro w3 k3 g3;have K3:=q_ k3;have G3:=q_ g3;clear k3 g3)
 (try simp only[Exit.inBlock,Exit.then]);have b3:=below_gr B2.o G3.o (by omega);exact bodyPost_ret (tab_res rfl K3.o rfl rfl) rfl ⟨rfl,b3⟩
theorem table_known(g:Nat)(Mu S:Nat->Prop)(c:M.Cx)(st:M.St)(p:PV)(bs:List Nat)(F u:Nat)(name:ByteArray)(w:World)(hn:M.hasT (tnames c.tables) name=true)(hk:Blk w g 77 #[.int .u8 (p.d.f.toNat:Int),.int .u8 (p.d.c.toNat:Int),.int .u8 (p.d.r.toNat:Int),.int .u8 (p.d.e.toNat:Int),.int .u8 (p.d.s.toNat:Int),p.v,p.tv,.string p.now,.int .i64 (F:Nat),.int .i64 (u:Nat),p.rv,.bool p.stop,p.sv])(hp:PlIn w g Mu S c st p bs):
 ∃A n,SOk A (M.tableOf c.tables name).entries.length n/\LAt EPair w S A (M.tableOf c.tables name).entries.length (M.tableOf c.tables name).entries/\∀W,Below w.heap.size w W->
 Calls Tryz.prog 169 #[.pointer (some ⟨g,0,none⟩),.string name] W fun e w'=>e= .returned (.agg #[.string (M.tableOf c.tables name).name,.slice A (M.tableOf c.tables name).entries.length n])/\Below W.heap.size W w':=by
 obtain⟨i,hi,hfi,hti⟩:=tab_first hn;obtain⟨A,n,htv,hok,hl⟩:=hp.tabs;have hS:∀b,S b->b<w.heap.size:=fun b h=>(hp.far b h).1;obtain⟨a,x,u1,v1,rfl,hbS,hx,hr,hc1,hc2⟩:=hl.in2 rfl hi;rw[hti] at hx;obtain rfl:=Option.some.inj hx;obtain⟨A3,c3,e3,hn3,hok3,hl3⟩:=ETable.inv hr;injection e3 with e3 e4;injection e4 with e4;subst e3 e4;refine⟨A3,c3,hok3,hl3,fun W hW=> ?_⟩;have hbl:=hS _ hbS;exact table_at g S c.tables p F u name W a n i _ _ hfi hi htv hok (hl.below hW hS) (fun b hb=>Nat.lt_of_lt_of_le (hS b hb) hW.size) (Nat.lt_of_lt_of_le hbl hW.size) ((hW.cell (p:=a.add (i*2)) (by rw[block_of_add];exact hbl)).trans hc1) ((hW.cell (p:=⟨(a.add (i*2)).block,(a.add (i*2)).off+1,none⟩) (by show(a.add (i*2)).block<_;rw[block_of_add];exact hbl)).trans hc2) rfl (hk.below hW hk.lt)
def ExP(w:World)(g:Nat)(p:PV)(F:Nat)(r:Except Int M.Val×Nat)(e:Ending)(w':World):Prop:=
 OnlyG g w w'/\Blk w' g 77 (p.cells F r.2)/\e=valE r.1
def ExOk(d:Nat):Prop:=∀(t:M.Tree) (g:Nat) (Mu S N:Nat->Prop) (c:M.Cx) (st:M.St) (p:PV) (bs:List Nat) (F u:Nat) (env:List (ByteArray×Int)) (seg:Bool) (k:Int) (A:Option Addr) (cap:Nat) (w:World),
 M.okT d 3 t=true->M.wfT t->M.kindE (tnames c.tables) env d seg t= .ok k->PlIn w g Mu S c st p bs->Blk w g 77 #[.int .u8 (p.d.f.toNat:Int),.int .u8 (p.d.c.toNat:Int),.int .u8 (p.d.r.toNat:Int),.int .u8 (p.d.e.toNat:Int),.int .u8 (p.d.s.toNat:Int),p.v,p.tv,.string p.now,.int .i64 (F:Nat),.int .i64 (u:Nat),p.rv,.bool p.stop,p.sv]->F<=2000->u<=F->(∀b,N b->b<w.heap.size/\b≠g)->SOk A (M.flat t).length cap->LAt ENode w N A (M.flat t).length (M.flat t)->
 Calls Tryz.prog 28 #[.pointer (some ⟨g,0,none⟩),.slice A (M.flat t).length cap] w (ExP w g p F (M.cut F u (M.evalE c st.m st.scopes d t)))
def ValsOk(d:Nat):Prop:=∀(t:M.Tree) (c:M.Cx) (st:M.St) (v:M.Val) (k:Nat),M.okT d 3 t=true->(∀s:M.Scope,s∈st.scopes->∀(n:ByteArray) (v:M.Val),s n=some v->VOk v)->c.now.size<=1048576->(∀t∈c.tables,∀e∈t.entries,e.2.size<=1048576)->st.m.segs.length<=1048576->M.evalE c st.m st.scopes d t=(.ok v,k)->VOk v
theorem PlIn.segs{w:World}{g:Nat}{Mu S:Nat->Prop}{c:M.Cx}{st:M.St}{p:PV}{bs:List Nat}(h:PlIn w g Mu S c st p bs):st.m.segs.length<=1048576:=by
 obtain⟨A,n,_,h2,_⟩:=h.msg;exact h2.le
theorem OnlyG.blk{g:Nat}{w w':World}{b:Nat}{T:TypeId}{cs:Array Value}(h:OnlyG g w w')(hk:Blk w b T cs)(h1:b≠g):Blk w' b T cs:=Turns.blk h hk h1
theorem OnlyG.lat{g:Nat}{w w':World}{α:Type}{E:Enc α}{S:Nat->Prop}{A:Option Addr}{m:Nat}{xs:List α}(h:OnlyG g w w')(hl:LAt E w S A m xs)(hS:∀b,S b->b<w.heap.size/\b≠g):LAt E w' S A m xs:=Turns.lat h hl hS
theorem OnlyG.tr{g:Nat}{w w' w'':World}(h:OnlyG g w w')(h2:OnlyG g w' w''):OnlyG g w w'':=h.trans h2 (fun _ _ h=>h)
theorem OnlyG.own{g:Nat}{w w':World}{α:Type}{E:Enc α}{T:TypeId}{B:Nat}{v:Value}{xs:List α}(h:OnlyG g w w')(ho:OwnE E T w B NoB v xs)(hv:v.ownBlock≠some g):OwnE E T w' B NoB v xs:=
 ho.stay h.size (fun b hb hc=>h.block b hb (fun e=>hc.elim (fun x=>x) (fun x=>hv (e▸x))))
structure GI(W0:World)(g:Nat)(p:PV)(F u u2:Nat)(v:M.Val)(L:Nat->Bool)(vs:Nat->Value)(w:World):Prop where
 turns:OnlyG g W0 w
 blk:Blk w g 77 (p.cells F (if L 3=true then u2 else u))
 one:L 4=true->∃q,vs 4= .slice (some ⟨q,0,none⟩) 1 1/\W0.heap.size<=q/\Blk w q 37 #[.int .i64 v.kind,.string v.text,.int .i64 v.num,.bool v.truth]
section
variable {W0 w w':World} {g:Nat} {p:PV} {F u u2:Nat} {v:M.Val} {L:Nat->Bool} {vs:Nat->Value}
theorem GI.start(hk:Blk W0 g 77 (p.cells F u)):GI W0 g p F u u2 v (fun _=>false) vs {W0 with drawn:=W0.drawn+1}:=
 ⟨⟨rfl,rfl,rfl,n_,fun _ _ _=>rfl⟩,hk,fun h=>by cases h⟩
theorem GI.pure(h:GI W0 g p F u u2 v L vs w){k:Nat}{x:Value}(h3:k≠3)(h4:k≠4):GI W0 g p F u u2 v (upd L k) (updv vs k x) w:=by
 have e3:upd L k 3=L 3:=by simp[upd,Ne.symm h3]
 have e4:upd L k 4=L 4:=by simp[upd,Ne.symm h4]
 have v4:updv vs k x 4=vs 4:=by simp[updv,Ne.symm h4]
 exact⟨h.turns,by rw[e3];exact h.blk,by rw[e4,v4];exact h.one⟩
theorem GI.call(h:GI W0 g p F u u2 v L vs w)(hg:g<W0.heap.size){x:Value}(h2:OnlyG g w w')(hk:Blk w' g 77 (p.cells F u2)):GI W0 g p F u u2 v (upd L 3) (updv vs 3 x) w':=by
 refine⟨h.turns.tr h2,by simpa[upd] using hk,fun hl=> ?_⟩;have e4:upd L 3 4=L 4:=by simp[upd]
 have v4:updv vs 3 x 4=vs 4:=by simp[updv]
 rw[e4] at hl;obtain⟨q,a1,a2,a3⟩:=h.one hl;exact⟨q,by rw[v4];exact a1,a2,h2.blk a3 (by omega)⟩
theorem GI.make(h:GI W0 g p F u u2 v L vs w):GI W0 g p F u u2 v (upd L 4) (updv vs 4 (.slice (some ⟨w.heap.size,0,none⟩) 1 1)) (w.alloc (.cells #[.int .i64 v.kind,.string v.text,.int .i64 v.num,.bool v.truth] 37)):=by
 have e3:upd L 4 3=L 3:=by simp[upd]
 exact⟨h.turns.on ((Below.refl _ w).alloc (n_) _),by rw[e3];exact h.blk.alloc _,fun _=>⟨w.heap.size,by simp[updv],h.turns.size,Blk.new _ _ _⟩⟩
end
theorem LAt.tail{α:Type}{E:Enc α}{w:World}{S:Nat->Prop}{a:Addr}{m:Nat}{x:α}{xs:List α}(hE:E.n=1)(h:LAt E w S (some a) (m+1) (x::xs)):LAt E w S (some ⟨a.block,a.off+1,none⟩) m xs:=by
 refine⟨by have:=h.1;simpa using this,fun hm=>⟨_,rfl,?_,fun j y hy=> ?_⟩⟩
 ·obtain⟨ad,e,hb,-⟩:=h.2 (by omega)
  cases e;exact hb
 ·obtain⟨ad,e,hb,he⟩:=h.2 (by omega)
  cases e;obtain⟨cs,hr,hi⟩:=he (j+1) y (by simpa using hy);refine⟨cs,hr,fun i v hv=> ?_⟩;have:=hi i v hv;rw[hE] at this⊢;rw[show(⟨a.block,a.off+1,none⟩:Addr)=a.add 1 by rw[Addr.add,if_neg (by omega)],add_of_add,show 1+(j*1+i)=(j+1)*1+i by omega];exact this
end
end Go.Proofs.YtnocnbklhikmnaaGreatDoor
