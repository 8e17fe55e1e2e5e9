/- Part 14 of the proof. -/
import Derived.Test.YtnocnbklhikmnaaGreatDoorW11
import Derived.Test.YtnocnbklhikmnaaGreatDoorW13
import Derived.LoopNIn
set_option linter.unusedVariables false
set_option maxRecDepth 1000000
set_option maxHeartbeats 16000000
namespace Go.Proofs.YtnocnbklhikmnaaGreatDoor.Rk
open Go
def FW(r:Option Nat):Fence:={Fence.wide with round:=r}
def ResR(ρ:Env):Res->Ending->Prop
 | .ret v,.returned v'=>VR ρ v v'
 | .pan v,.panicked ch=>∃v',ch=[{v:=v',recovered:=false}]/\VR ρ v v'
 |_,_=>False
def CSound(P:Program)(C:Callee):Prop:=∀f args s res s',C f args s=some (res,s')->WfS s->Mono s s'/\∀(ρ:Env) (T:Nat->Nat->Prop) (w:World) (vs:Array Value),Pre ρ T s s' w->VRL ρ args vs.toList->
 (∀w1,(callFunc f vs).run P w1= .ok (.enter f vs) w1)/\∀n,CallsIn Fence.wide n P f vs w (fun e w'=>∃ρ',Post ρ T s w ρ' s' w'/\ResR ρ' res e)
def YSound(P:Program)(Y:Yielder):Prop:=∀b args s res s',Y b args s=some (res,s')->WfS s->Mono s s'/\∀(ρ:Env) (T:Nat->Nat->Prop) (w:World) (vs:Array Value),Pre ρ T s s' w->VRL ρ args vs.toList->∀r,ρ b=some r->
 ∃f tmps assign body,(Instr.yield r.blk vs).run P w= .ok (.round r.blk f tmps assign body) w/\∀rr n,RoundIn (FW rr) n P r.blk f tmps assign body w (fun e w'=>∃ρ',Post ρ T s w ρ' s' w'/\ResR ρ' res e)
section
variable {P:Program} {ρ:Env} {T:Nat->Nat->Prop} {s s':St} {w w':World} {aa:AAct} {a:Act} {C:Callee} {Y:Yielder}
theorem val_wp{r:Option Nat}{n:Nat}{o:Oper}{v:Value}{K:Act->World->Prop}{Q:Exit->Act->World->Prop}(hd:∀c,o.op≠.defer c)(hy:Yld P a o w v w')(hk:K (a.put o.dst v) w'):o.wpIn (FW r) n P a w K Q:=by
 refine⟨fun _ _=>trivial,?_⟩;rw[Oper.semAt_eq _ _ _ hd];rcases hy with hy|⟨hy,rfl⟩
 ·rw[hy];exact hk
 ·rw[hy];exact hk
theorem oneVal_mono{o:Oper}{res:Res}(hC:CSound P C)(hY:YSound P Y)(h:oneVal P C Y aa o s=some (res,s'))(hwf:WfS s):Mono s s':=by
 unfold oneVal at h;split at h
 ·split at h
  ·exact(hC _ _ _ _ _ h hwf).1
  ·exact(hY _ _ _ _ _ h hwf).1
  ·cases h
 ·split at h
  ·cases h;exact Mono.refl _
  ·cases h
 ·cases h
 ·split at h
  ·rename_i ho
   cases h;exact aop_mono hwf ho
  ·cases h
theorem oneVal_ok{o:Oper}{res:Res}(hC:CSound P C)(hY:YSound P Y)(h:oneVal P C Y aa o s=some (res,s'))(hp:Pre ρ T s s' w)(ha:OpsR ρ aa a o.op){r:Option Nat}{n:Nat}{K:Act->World->Prop}{Q:Exit->Act->World->Prop}(hk:∀ρ' w',Post ρ T s w ρ' s' w'->match res with
   | .ret v=>∀v',VR ρ' v v'->K (a.put o.dst v') w'
   | .pan v=>∀v',VR ρ' v v'->Q (.panic [{v:=v',recovered:=false}]) a w'):o.wpIn (FW r) n P a w K Q:=by
 have hwf:=hp.wf;unfold oneVal at h;split at h
 ·rename_i g args ats ho
  have hargs:=args_ok (ρ:=ρ) (aa:=aa) (a:=a) (xs:=args) (fun x hx=>ha x (by rw[ho];simp[Op.operands,Call.operands,hx]));have hg:=ha g (by rw[ho];simp[Op.operands,Call.operands]);have hnd:∀c,o.op≠.defer c:=fun c=>by rw[ho];simp
  split at h
  ·rename_i f first cap hf
   rw[hf] at hg;generalize hgg:a.eval g=g' at hg;cases hg with
   |func _ _ _ k' l' h1 h2=>
   have hall:VRL ρ (first++args.toList.map (aeval aa)++cap) (k'++args.map a.eval++l').toList:=by
    simp only[Array.toList_append];exact(h1.append hargs).append h2
   obtain⟨_,hc⟩:=hC _ _ _ _ _ h hwf;obtain⟨he,hcall⟩:=hc ρ T w _ hp hall
   have hrun:(execOp a.eval o).run P w= .ok (.enter f (k'++args.map a.eval++l')) w:=by
    unfold execOp;rw[ho];simp only[resolve,hgg,Deferred.ofValue,Sem.run_bind,Sem.run_pure,Result.andThen_ok,invoke];exact he w
   refine⟨fun _ _=>trivial,?_⟩;rw[Oper.semAt_eq _ _ _ hnd,hrun,Oper.uponIn_enter];refine⟨fun hh=>by simp[FW,Fence.wide] at hh,?_⟩;have hcall2:CallsIn (FW r) (n-1) P f (k'++args.map a.eval++l') w (fun e w'=>∃ρ',Post ρ T s w ρ' s' w'/\ResR ρ' res e):=hcall (n-1);refine hcall2.mono (fun e w2 ⟨ρ',hpost,hres⟩=> ?_);have hk':=hk ρ' w2 hpost;cases res with
   |ret v=>
    cases e with
    |returned v'=>exact hk' v' hres
    |panicked ch=>exact hres.elim
    |outgrown=>exact hres.elim
   |pan v=>
    cases e with
    |returned v'=>exact hres.elim
    |panicked ch=>obtain⟨v',rfl,hv⟩:=hres;exact hk' v' hv
    |outgrown=>exact hres.elim
  ·rename_i b hf
   rw[hf] at hg;generalize hgg:a.eval g=g' at hg;cases hg with
   |yield _ rb hb=>
   obtain⟨_,hc⟩:=hY _ _ _ _ _ h hwf;obtain⟨f,tmps,assign,body,he,hround⟩:=hc ρ T w _ hp hargs rb hb
   have hrun:(execOp a.eval o).run P w= .ok (.round rb.blk f tmps assign body) w:=by
    unfold execOp;rw[ho];simp only[resolve,hgg,Deferred.ofValue,Sem.run_bind,Sem.run_pure,Result.andThen_ok,invoke];simpa using he
   refine⟨fun _ _=>trivial,?_⟩;rw[Oper.semAt_eq _ _ _ hnd,hrun,Oper.uponIn_round];refine⟨fun hh=>by simp[FW,Fence.wide] at hh,?_⟩;refine(hround r (n-1)).mono (fun e w2 ⟨ρ',hpost,hres⟩=> ?_)
   have hk':=hk ρ' w2 hpost;cases res with
   |ret v=>
    cases e with
    |returned v'=>exact hk' v' hres
    |panicked ch=>exact hres.elim
    |outgrown=>exact hres.elim
   |pan v=>
    cases e with
    |returned v'=>exact hres.elim
    |panicked ch=>obtain⟨v',rfl,hv⟩:=hres;exact hk' v' hv
    |outgrown=>exact hres.elim
  ·cases h
 ·rename_i x ho
  split at h
  ·rename_i t v0 hx
   cases h;have hxv:=ha x (by rw[ho];simp[Op.operands]);rw[hx] at hxv;have hnd:∀c,o.op≠.defer c:=fun c=>by rw[ho];simp
   have hk':=hk ρ w (Post.same hp.good rfl rfl (Still.refl w)) _ hxv;generalize hgg:a.eval x=x' at hxv hk';cases hxv with
   |iface _ _ v1 h1=>
   refine⟨fun _ _=>trivial,?_⟩
   have hrun:(execOp a.eval o).run P w= .halt (.panic (.iface t v1)) w:=by
    unfold execOp;rw[ho];simp only[hgg,Sem.run_bind];rfl
   rw[Oper.semAt_eq _ _ _ hnd,hrun];exact hk'
  ·cases h
 ·cases h
 ·rename_i hne1 hne2 hne3
  split at h
  ·rename_i v s1 ho
   cases h;obtain⟨ρ',w',v',h1,h2,h3⟩:=aop_ok ho hp ha;exact val_wp (fun c hc=>hne3 c hc) h1 (hk ρ' w' h2 v' h3)
  ·cases h
end
def jumpsIn(F:Fence)(n:Nat)(P:Program)(c:Code)(Q:Exit->Act->World->Prop):Nat->Nat->Act->World->Prop
 |0,_,_,_=>False
 |m+1,l,a,w=>∃rest,findLabel c l=some rest/\rest.wpIn F n P (fun e a w=>match e with| .goto l=>jumpsIn F n P c Q m l a w|e=>Q e a w) a w
theorem jumpsIn_mono{F:Fence}{n:Nat}{P:Program}{c:Code}{Q Q':Exit->Act->World->Prop}(hq:∀e a w,Q e a w->Q' e a w):∀m l a w,jumpsIn F n P c Q m l a w->jumpsIn F n P c Q' m l a w
 |0,_,_,_,h=>h
 |m+1,l,a,w,⟨rest,h1,h2⟩=>⟨rest,h1,wpIn_mono h2 (fun e a w h=>by
   cases e<;>first|exact jumpsIn_mono hq m _ _ _ h|exact hq _ _ _ h)⟩
theorem stepR_scope{P:Program}{b:Frame}{a:Act}{k:List Item}{cs:List Frame}{w:World}{c:Code}:step P (lone (b.atR a (.code (.scope c)::k)) cs w)= .next (lone (b.atR a (.code c:: .inScope c::k)) cs w):=
 step_lone_go (by simp[stepG,stepG.exec,Frame.atR])
theorem stepR_inScope{P:Program}{b:Frame}{a:Act}{k:List Item}{cs:List Frame}{w:World}{c:Code}:step P (lone (b.atR a (.inScope c::k)) cs w)= .next (lone (b.atR a k) cs w):=
 step_lone_go (by simp[stepG,stepG.exec,Frame.atR])
theorem wpIn_scope_jumps{F:Fence}{n:Nat}{P:Program}{c:Code}{Q:Exit->Act->World->Prop}{a:Act}{w:World}(h:c.wpIn F n P (fun e a w=>match e with| .goto l=>∃m,jumpsIn F n P c Q m l a w|e=>Q e a w) a w):(Code.scope c).wpIn F n P Q a w:=by
 intro b k cs hro hb hr
 have key:∀m l a w,jumpsIn F n P c Q m l a w->∃rest,findLabel c l=some rest/\∃e a' w',Q e a' w'/\ArrivesIn (Machine.fenced P F) P (lone (b.atR a (.code rest:: .inScope c::k)) cs w) b k cs e a' w':=by
  intro m
  induction m with
  |zero=>intro l a w h;exact h.elim
  |succ m ih=>
   intro l a w h;obtain⟨rest,hf,h⟩:=h;refine⟨rest,hf,?_⟩;obtain⟨e,a₁,w₁,hq,harr⟩:=h b (.inScope c::k) cs hro hb hr;cases e with
   |normal=>exact⟨.normal,a₁,w₁,hq,StepsIn.trans harr (.one (fenced_calm hb hr rfl) stepR_inScope)⟩
   |exit id=>
    have hx:exitTo id (.inScope c::k)=exitTo id k:=by simp[exitTo]
    exact⟨.exit id,a₁,w₁,hq,fun k' hk=>harr.1 k' (by rw[hx];exact hk),fun hr' hk=>harr.2 hr' (by rw[hx];exact hk)⟩
   |goto l'=>
    obtain⟨rest',hf',e₂,a₂,w₂,hq₂,harr₂⟩:=ih l' a₁ w₁ hq;exact⟨e₂,a₂,w₂,hq₂,.of_steps (harr.1 (.code rest':: .inScope c::k) (by simp[gotoIn,hf'])) harr₂⟩
   |ret=>exact⟨_,a₁,w₁,hq,harr⟩
   |panic ch=>exact⟨_,a₁,w₁,hq,harr⟩
   |outgrown=>exact⟨_,a₁,w₁,hq,harr⟩
 have h0:(lone (b.atR a (.code (.scope c)::k)) cs w).fenced P F:=fenced_calm hb hr rfl;obtain⟨e,a₁,w₁,hq,harr⟩:=h b (.inScope c::k) cs hro hb hr;cases e with
 |normal=>exact⟨.normal,a₁,w₁,hq,.head h0 stepR_scope (StepsIn.trans harr (.one (fenced_calm hb hr rfl) stepR_inScope))⟩
 |exit id=>
  have hx:exitTo id (.inScope c::k)=exitTo id k:=by simp[exitTo]
  exact⟨.exit id,a₁,w₁,hq,fun k' hk=> .head h0 stepR_scope (harr.1 k' (by rw[hx];exact hk)),fun hr' hk=>let⟨k₁,g1,g2⟩:=harr.2 hr' (by rw[hx];exact hk);⟨k₁,g1,.head h0 stepR_scope g2⟩⟩
 |goto l'=>
  obtain⟨m,hm⟩:=hq;obtain⟨rest',hf',e₂,a₂,w₂,hq₂,harr₂⟩:=key m l' a₁ w₁ hm;exact⟨e₂,a₂,w₂,hq₂,.of_steps (.head h0 stepR_scope (harr.1 (.code rest':: .inScope c::k) (by simp[gotoIn,hf']))) harr₂⟩
 |ret=>exact⟨_,a₁,w₁,hq,.of_steps (.one h0 stepR_scope) harr⟩
 |panic ch=>exact⟨_,a₁,w₁,hq,.of_steps (.one h0 stepR_scope) harr⟩
 |outgrown=>exact⟨_,a₁,w₁,hq,.of_steps (.one h0 stepR_scope) harr⟩
def ExR(ρ:Env):AExit->Exit->Prop
 | .normal,.normal=>True
 | .exit i,.exit j=>i=j
 | .goto i,.goto j=>i=j
 | .ret,.ret=>True
 | .panic v,.panic ch=>∃v',ch=[{v:=v',recovered:=false}]/\VR ρ v v'
 |_,_=>False
def EvPost(ρ:Env)(T:Nat->Nat->Prop)(s:St)(w:World)(e:AExit)(aa':AAct)(s':St)(E:Exit)(a':Act)(w':World):Prop:=∃ρ',Post ρ T s w ρ' s' w'/\ActR ρ' aa' a'/\ExR ρ' e E
theorem EvPost.after{ρ ρ1:Env}{T:Nat->Nat->Prop}{s s1 s2:St}{w w1 w2:World}{e:AExit}{aa:AAct}{E:Exit}{a:Act}(m1:Mono s s1)(m2:Mono s1 s2)(h:Post ρ T s w ρ1 s1 w1)(k:EvPost ρ1 (Tn T s.n s1.n) s1 w1 e aa s2 E a w2):EvPost ρ T s w e aa s2 E a w2:=
 let⟨ρ',g1,g2,g3⟩:=k;⟨ρ',Post.trans m1 m2 h g1,g2,g3⟩
abbrev Ev:=Code->AAct->St->Option (AExit×AAct×St)
def EvS(P:Program)(E:Ev)(R:Bool):Prop:=∀c aa s e aa' s',E c aa s=some (e,aa',s')->WfS s->Mono s s'/\
 ∀ρ T w a r n,(R=false->r=none)->Pre ρ T s s' w->ActR ρ aa a->c.wpIn (FW r) n P (EvPost ρ T s w e aa' s') a w
def JuS(P:Program)(J:Code->Nat->AAct->St->Option (AExit×AAct×St))(R:Bool)(m:Nat):Prop:=∀c l aa s e aa' s',J c l aa s=some (e,aa',s')->WfS s->Mono s s'/\
 ∀ρ T w a r n,(R=false->r=none)->Pre ρ T s s' w->ActR ρ aa a->jumpsIn (FW r) n P c (EvPost ρ T s w e aa' s') m l a w
def LoS(P:Program)(E:Ev)(R:Bool)(m:Nat):Prop:=∀c aa s e aa' s',E (.loop c) aa s=some (e,aa',s')->WfS s->Mono s s'/\
 ∀ρ T w a r n,(R=false->r=none)->Pre ρ T s s' w->ActR ρ aa a->Code.roundsIn (FW r) n P c (EvPost ρ T s w e aa' s') m a w
theorem rounds_mono{F:Fence}{n:Nat}{P:Program}{c:Code}{Q Q':Exit->Act->World->Prop}(hq:∀e a w,Q e a w->Q' e a w):∀m a w,Code.roundsIn F n P c Q m a w->Code.roundsIn F n P c Q' m a w
 |0,_,_,h=>h
 |m+1,a,w,h=>wpIn_mono h (fun e a w h=>by
   cases e<;>first|exact rounds_mono hq m _ _ h|exact hq _ _ _ h)
section
variable {P:Program} {ρ:Env} {T:Nat->Nat->Prop} {s s':St} {w w':World} {aa aa':AAct} {a:Act} {E:Ev} {R:Bool}
theorem alt_put(w:World){B:Nat}{x:Obj}(o:Obj)(h:w.heap[B]? =some x):Alt w (w.putObj B o) B o:=
 ⟨rfl,rfl,rfl,World.putObj_size,World.putObj_heap_same (lt_of_some h),fun _ hB=>World.putObj_heap_other hB⟩
end
end Go.Proofs.YtnocnbklhikmnaaGreatDoor.Rk
namespace Go.Proofs.YtnocnbklhikmnaaGreatDoor
variable{α:Type}{E:Enc α}{S:Nat->Prop}{m:Nat}{v:Value}{w:World}{xs:List α}
open Go Go.RowKit Go.BigFrame
theorem LAt.drop{ad:Addr}(h:LAt E w S (some ad) m xs)(j:Nat):LAt E w S (some (ad.add (j*E.n))) (m-j) (xs.drop j):=by
 refine⟨by rw[List.length_drop,h.1],fun hm=> ?_⟩;obtain⟨a,e,hb,he⟩:=h.2 (by omega);cases e;refine⟨_,rfl,by rw[block_of_add];exact hb,fun i x hx=> ?_⟩;rw[List.getElem?_drop] at hx;obtain⟨cs,hr,hi⟩:=he _ x hx;refine⟨cs,hr,fun l u hu=> ?_⟩;have:=hi l u hu
 rwa [add_of_add,show j*E.n+(i*E.n+l)=(j+i)*E.n+l by rw[Nat.add_mul];omega]
theorem LAt.front{A:Option Addr}(h:LAt E w S A m xs)(j:Nat)(hj:j<=m):LAt E w S A j (xs.take j):=by
 refine⟨by rw[List.length_take,h.1];omega,fun hm=> ?_⟩;obtain⟨a,e,hb,he⟩:=h.2 (by omega);refine⟨a,e,hb,fun i x hx=> ?_⟩
 have hij:i<j:=by
  have:=(List.getElem?_eq_some_iff.1 hx).1;rw[List.length_take] at this;omega
 rw[List.getElem?_take_of_lt hij] at hx;exact he i x hx
theorem OwnE.grown{T:TypeId}{w':World}{B:Nat}{row:Option Nat}(h:OwnE E T w B S v xs)(hg:w.grownBy w' row)(hne:∀g,v.ownBlock=some g->row≠some g)(hS:∀g,row=some g->¬S g:=by intro _ _ h;exact h.elim):OwnE E T w' B S v xs:=
 h.stay hg.size (fun k hk hc=>hg.block k hk (fun e=>hc.elim (fun hs=>hS k e.symm hs) (fun hv=>hne k hv e.symm)))
theorem own_apart{v' u:Value}{n:Nat}(h:v'.ownBlock=v.ownBlock\/v'.ownBlock=some n)(hne:∀g,v.ownBlock=some g->u.ownBlock≠some g)(hu:∀g,u.ownBlock=some g->g<n):∀g,v'.ownBlock=some g->u.ownBlock≠some g:=by
 intro g hg e;rcases h with h|h
 ·exact hne g (h▸hg) e
 ·rw[hg] at h
  injection h with h;have:=hu g e;omega
theorem add_0(a:Addr):a.add 0=a:=by unfold Addr.add;simp
namespace M
def placeOf(ks:List Tree)(j:Nat):Nat:=1+(flats (ks.take j)).length
def places(ks:List Tree):List Int:=(List.range ks.length).map fun j=>(placeOf ks j:Int)
theorem flats_append(a b:List Tree):flats (a++b)=flats a++flats b:=by
 induction a with
 |nil=>simp[flats]
 |cons t l ih=>simp[flats,ih]
theorem flats_split{ks:List Tree}{k:Nat}{t:Tree}(h:ks[k]? =some t):flats ks=flats (ks.take k)++(flat t++flats (ks.drop (k+1))):=by
 have hk:=(List.getElem?_eq_some_iff.1 h).1
 have e:ks=ks.take k++(t::ks.drop (k+1)):=by
  have:=List.take_append_drop k ks;rw[List.drop_eq_getElem_cons hk] at this;rw[(List.getElem?_eq_some_iff.1 h).2] at this;exact this.symm
 conv=>lhs;rw[e]
 rw[flats_append];rfl
theorem placeOf_succ{ks:List Tree}{k:Nat}{t:Tree}(h:ks[k]? =some t):placeOf ks (k+1)=placeOf ks k+(flat t).length:=by
 unfold placeOf;rw[List.take_add_one,h,flats_append];simp[flats];omega
theorem drop_place{x:Node}{ks:List Tree}{k:Nat}{t:Tree}(h:ks[k]? =some t):(flat (.mk x ks)).drop (placeOf ks k)=flat t++flats (ks.drop (k+1)):=by
 unfold placeOf;rw[show flat (.mk x ks)=x::flats ks by unfold flat;rfl,Nat.add_comm,List.drop_succ_cons,flats_split h,List.drop_left]
theorem place_le{x:Node}{ks:List Tree}{k:Nat}{t:Tree}(h:ks[k]? =some t):placeOf ks k+(flat t).length<=(flat (.mk x ks)).length:=by
 rw[show flat (.mk x ks)=x::flats ks by unfold flat;rfl,List.length_cons,flats_split h];unfold placeOf;simp;omega
theorem flat_pos(t:Tree):0<(flat t).length:=by
 cases t;unfold flat;simp
theorem flats_len:∀l:List Tree,l.length<=(flats l).length
 |[]=>by simp
 |t::l=>by have:=flat_pos t;have:=flats_len l;simp[flats];omega
theorem wfL_get:∀{ks:List Tree} {k:Nat} {t:Tree},wfL ks->ks[k]? =some t->wfT t
 |[],k,t,_,h=>by simp at h
 |s::l,0,t,hw,h=>by
  unfold wfL at hw;simp at h;exact h▸hw.1
 |s::l,k+1,t,hw,h=>by
  unfold wfL at hw;exact wfL_get hw.2 (by simpa using h)
end M
theorem info_nodes:(Tryz.prog.info? 29).map (fun i=>(i.zero,i.size,i.bytes))=some (some (.slice none 0 0),1,24):=by kernel_rfl
theorem info_i64:(Tryz.prog.info? 3).map (fun i=>(i.zero,i.size,i.bytes))=some (some (.int .i64 0),1,8):=by kernel_rfl
theorem parts_any(x:M.Node)(ks:List M.Tree)(ht:M.wfT (.mk x ks))(A:Option Addr)(m c:Nat)(S:Nat->Prop)(w:World)(hS:∀b,S b->b<w.heap.size)(hok:SOk A m c)(hl:LAt ENode w S A m (M.flat (.mk x ks))):
 Calls Tryz.prog 82 #[.slice A m c] w fun e w'=>∃A1 c1 A2 c2,e= .returned (.tuple #[.slice A1 ks.length c1,.slice A2 ks.length c2])/\SOk A1 ks.length c1/\SOk A2 ks.length c2/\LAt ENodes w' (fun b=>S b\/New w w' b) A1 ks.length (ks.map M.flat)/\LAt EInt w' (New w w') A2 ks.length (M.places ks)/\Below w.heap.size w w':=by
 have hm:=hok.le;have hcap:=hok.2.1;have hcm:=hok.2.2.2;have hn:=hl.1;have hx:x.n=(ks.length:Int)/\M.wfL ks:=by unfold M.wfT at ht;exact ht
 obtain⟨it1,hit1,hz1,hs1,hb1⟩:=info_parts info_nodes;obtain⟨it2,hit2,hz2,hs2,hb2⟩:=info_parts info_i64;have hpos:=M.flat_pos (.mk x ks);obtain⟨ad,x0,cs0,rfl,hb,hx0,hr0,hc0⟩:=hl.in_ (k:=0) (by omega);rw[show M.flat (.mk x ks)=x::M.flats ks by unfold M.flat;rfl] at hx0;cases hx0;obtain⟨rfl,-⟩:=ENode.inv hr0
 have hc1:w.cell? ⟨ad.block,ad.off+1,none⟩=some (.int .i64 x.n):=by
  have:=hc0 1 _ rfl;rw[show ENode.n=10 from rfl,cell_add 1 (by omega),Nat.zero_mul,add_0] at this;exact this
 rw[hx.1] at hc1;have hm0:0<m:=by omega
 have HL:=q_ hl;have HS:=q_ hS;have W1:=q_ hx.2;have HN:=q_ hn;have J1:=q_ hit1;have J2:=q_ hz1;have J3:=q_ hs1;have J4:=q_ hb1;have I1:=q_ hit2;have I2:=q_ hz2;have I3:=q_ hs2;have I4:=q_ hb2
 have hkm:ks.length<=1048576:=by
  have:=M.flats_len ks;have:(M.flat (.mk x ks)).length=1+(M.flats ks).length:=by unfold M.flat;simp;omega
  omega
 clear hl hS ht hx hn hit1 hz1 hs1 hb1 hit2 hz2 hs2 hb2 hr0 hc0 hpos;go_enter Tryz.func82,Tryz.ntmps82;go_wp2_with fail;go_loopw [4,5,6,12] (fun v1 v2 at_ y wr=>∃k:Nat,k<=ks.length/\y= .int .i64 k/\at_= .int .i64 (M.placeOf ks k:Nat)/\OwnE ENodes 29 wr w.heap.size S v1 ((ks.map M.flat).take k)/\OwnE EInt 3 wr w.heap.size (fun _=>False) v2 ((M.places ks).take k)/\(∀g,v1.ownBlock=some g->v2.ownBlock≠some g)/\Below w.heap.size w wr) (fun _ _ _ y _=>ks.length-(intOf y).toNat)
 case atStart=>exact⟨0,by omega,rfl,rfl,OwnE.nil HS.o,OwnE.nil (fun b hb=>hb.elim),(fun g h=>by simp[Value.ownBlock] at h),Below.refl _ _⟩
 case round=>
  obtain⟨k,hk,rfl,rfl,ho1,ho2,hne,hbel⟩:=hrel;have O1:=q_ ho1;have O2:=q_ ho2;have NE:=q_ hne;have HB:=q_ hbel;clear ho1 ho2 hne hbel;by_cases hlt:k<ks.length
  ·obtain⟨t,htk⟩:∃t,ks[k]? =some t:=⟨_,List.getElem?_eq_getElem hlt⟩
   have q1:decide ((k:Int)<(ks.length:Int))=true:=by simp;omega
   have hp:=M.place_le (x:=x) htk;have hps:=M.placeOf_succ htk;have hd:=M.drop_place (x:=x) htk;have ht:=M.wfL_get W1.o htk;have hfp:=M.flat_pos t;rw[HN.o] at hp;have HD:=q_ (hd▸(HL.o.below_ HB.o HS.o).drop (M.placeOf ks k));have HT:=q_ ht;have HK:=q_ htk;clear hd ht htk;generalize hpk:M.placeOf ks k=p at*;have HE:=q_ (end_any t (M.flats (ks.drop (k+1))) HT.o (some (ad.add (p*10))) (m-p) (c-p) S wr (fun b hb=>Nat.lt_of_lt_of_le (HS.o b hb) HB.o.size) (by omega) HD.o);go_wp2_with fail;refine HE.o.mono ?_;rintro e w2 ⟨rfl,hb2⟩;have HB2:=q_ hb2;have B2:=q_ (HB.o.trans (hb2.mono HB.o.size));have P1:=q_ (O1.o.below hb2);have P2:=q_ (O2.o.below hb2);clear hb2
   have R2:=q_ (show ENodes.R w2 S [.slice (some (ad.add (p*10))) (M.flat t).length (c-p)] (M.flat t) from Enc.list_mk (by
    have h1:=(HD.o.front (M.flat t).length (by omega)).below_ (w':=w2) (B:=wr.heap.size) HB2.o (fun b hb=>Nat.lt_of_lt_of_le (HS.o b hb) HB.o.size)
    rwa [List.take_left] at h1) ⟨(fun h=>by cases h),by omega,by omega,by omega⟩)
   have HT1:=q_ (show(ks.map M.flat).take (k+1)=(ks.map M.flat).take k++[M.flat t] by rw[List.take_add_one,List.getElem?_map,HK.o];rfl)
   have HT2:=q_ (show(M.places ks).take (k+1)=(M.places ks).take k++[(p:Int)] by
    rw[List.take_add_one];unfold M.places;rw[List.getElem?_map,List.getElem?_range hlt];simp[hpk])
   have hL1:((ks.map M.flat).take k).length<=k:=List.length_take_le _ _;have hL2:((M.places ks).take k).length<=k:=List.length_take_le _ _;have P3:=q_ (show EInt.R w2 (fun _=>False) [.int .i64 (p:Int)] (p:Int) from⟨rfl,by omega,by omega⟩);generalize hN:(M.flat t).length=N at*;generalize (ks.map M.flat).take k=l1 at*;generalize (M.places ks).take k=l2 at*
   go_wp2_with (first
    |(at_builtin;refine wpList_append_E rfl (.tmp 18) (.tmp 25) _ rfl it1 (.slice none 0 0) 24 Tryz.underlying146 J1.o J2.o J3.o J4.o rfl rfl (P1.o.alloc (.cells #[.slice (some (ad.add (p*10))) N (c-p)] 29)) ⟨w2.heap.size,0,none⟩ 1 1 [M.flat t] rfl rfl (news_one R2.o P1.o.there) (by omega) (by omega) (by have:=B2.o.size;simp;omega) ?_;intro o4 w4 hown4 hb4 hg4 hwh4;have O4:=q_ hown4;have W4:=q_ ((B2.o.alloc B2.o.size (.cells #[.slice (some (ad.add (p*10))) N (c-p)] 29)).trans hb4);have P4:=q_ ((P2.o.alloc (.cells #[.slice (some (ad.add (p*10))) N (c-p)] 29)).grown hg4 (fun g hg e=>NE.o g e hg));have NE4:=q_ (own_apart hwh4 NE.o (fun g hg=>by have:=(P2.o.own_lt hg).2;simp;omega));clear hown4 hb4 hg4 hwh4)
    |(at_builtin;refine wpList_append_E rfl (.tmp 27) (.tmp 29) _ rfl it2 (.int .i64 0) 8 Tryz.underlying147 I1.o I2.o I3.o I4.o rfl rfl (P4.o.alloc (.cells #[.int .i64 (p:Int)] 3)) ⟨w4.heap.size,0,none⟩ 1 1 [(p:Int)] rfl rfl (news_one P3.o P4.o.there) (by omega) (by omega) (by have:=W4.o.size;simp;omega) ?_;intro o5 w5 hown5 hb5 hg5 hwh5;have O5:=q_ hown5;have W5:=q_ ((W4.o.alloc W4.o.size (.cells #[.int .i64 (p:Int)] 3)).trans hb5);have P5:=q_ ((O4.o.alloc (.cells #[.int .i64 (p:Int)] 3)).grown hg5 (fun g hg e=>NE4.o g hg e) (fun g hg hs=>by have h1:=(P4.o.own_lt hg).1;have h2:=HS.o _ hs;omega));have NE5:=q_ (own_apart hwh5 (fun g e hg=>NE4.o g hg e) (fun g hg=>by have:=(O4.o.own_lt hg).2;simp;omega));clear hown5 hb5 hg5 hwh5))
   go_roundw
   case rel=>exact⟨k+1,by omega,by go_num,by rw[hps];go_num,by rw[HT1.o];exact P5.o,by rw[HT2.o];exact O5.o,(fun g hg e=>NE5.o g e hg),W5.o⟩
   case measure=>simp[intOf];omega
  ·have q1:decide ((k:Int)<(ks.length:Int))=false:=by simp;omega
   obtain rfl:k=ks.length:=by omega
   have ho1:=O1.o;have ho2:=O2.o;rw[List.take_of_length_le (by simp)] at ho1;rw[List.take_of_length_le (by simp[M.places])] at ho2;have r1:=ho1.reads (S':=fun b=>S b\/New w wr b) (fun b hb=> .inl hb) (fun g hg=> .inr (ho1.own_lt hg)) (by simpa using hkm);have r2:=ho2.reads (S':=New w wr) (fun b hb=>hb.elim) (fun g hg=>ho2.own_lt hg) (by simpa[M.places] using hkm);obtain⟨A1,c1,e1,k1,l1⟩:=Enc.list_inv (E:=ENodes) r1;obtain⟨A2,c2,e2,k2,l2⟩:=Enc.list_inv (E:=EInt) r2;rw[List.length_map] at e1 k1 l1;rw[show(M.places ks).length=ks.length by simp[M.places]] at e2 k2 l2;subst e1 e2;have K1:=q_ k1;have K2:=q_ k2;have L1:=q_ l1;have L2:=q_ l2;clear ho1 ho2 r1 r2 k1 k2 l1 l2 O1 O2 NE;go_wp2_with fail;go_ret2;exact⟨A1,c1,A2,c2,rfl,K1.o,K2.o,L1.o,L2.o,HB.o⟩
end Go.Proofs.YtnocnbklhikmnaaGreatDoor
