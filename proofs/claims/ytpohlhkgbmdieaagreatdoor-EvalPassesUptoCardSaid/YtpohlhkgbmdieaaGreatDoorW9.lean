/- Part 9 of the proof. -/
import Derived.Test.YtpohlhkgbmdieaaGreatDoorW8
import Derived.Lib.Bytealg
import Derived.Lib.Join
import Derived.Below
import Derived.RecoverIn
set_option linter.unusedVariables false
set_option maxRecDepth 1000000
set_option maxHeartbeats 16000000
namespace Go.Proofs.YtpohlhkgbmdieaaGreatDoor.Rk
section
open Go
section
variable {P:Program} {ρ:Env} {T:Nat->Nat->Prop} {s s':St} {w w':World} {aa:bI} {a:Act}
theorem IY{t:TypeId}{x v:AV}{x':Value}(h:mG P t x s=some (v,s'))(hp:Pre ρ T s s' w)(hx:VR ρ x x'):∃v',(asAddr x'>>=fun ad=>loadVar t ad).run P w= .ok v' w/\Post ρ T s w ρ s' w/\VR ρ v v':=by
 unfold mG at h;split at h
 ·rename_i b off n ha hs
  split at h
  ·rename_i cs s1 hr
   simp only[Option.some.injEq,Prod.mk.injEq] at h;obtain⟨rfl,rfl⟩:=h;cases hx with
   |ptr b off r hb=>
    obtain⟨vs,h1,h2,h3⟩:=wN hr hp hb;obtain⟨e,_⟩:=eL hr;subst h1;refine⟨.agg vs.toArray,?_,Post.same hp.good (by rw[e];rfl) (by rw[e];rfl) (Still.refl w),.agg _ _ (by simpa using h2)⟩;simp[asAddr,loadVar,nD ha,bW hs,nG h3]
  ·cases h
 ·rename_i b off ha
  split at h
  ·rename_i v1 s1 hr
   simp only[Option.some.injEq,Prod.mk.injEq] at h;obtain⟨rfl,rfl⟩:=h;cases hx with
   |ptr b off r hb=>
    obtain⟨vs,h1,h2,h3⟩:=wN hr hp hb;obtain⟨e,_⟩:=eL hr
    match vs,h1 with
    |[u],_=>
     cases h2 with
     |cons _ _ _ _ hv _=>
      have hc:=h3 0 u rfl;rw[RB.ik,Nat.add_zero] at hc;refine⟨u,?_,Post.same hp.good (by rw[e];rfl) (by rw[e];rfl) (Still.refl w),hv⟩;simp[asAddr,loadVar,nD ha,hc]
  ·cases h
 ·cases h
theorem nK:∀{l:List ResultVar} {vs:List AV} {s s':St},xN P aa l s=some (vs,s')->aF s s'
 |[],vs,s,s',h=>by cases h;exact aF.refl _
 | .tmp t::l,vs,s,s',h=>by
   unfold xN at h;split at h
   ·rename_i h1;cases h;exact nK h1
   ·cases h
 | .cell x t::l,vs,s,s',h=>by
   unfold xN at h;split at h
   ·rename_i h1
    split at h
    ·rename_i h2;cases h;exact(mU h1).trans (nK h2)
    ·cases h
   ·cases h
def IZ(tmps:Array Value):ResultVar->Sem Value
 | .tmp t=>pure (tmps.getD t undef)
 | .cell a t=>do loadVar t (<-asAddr (tmps.getD a undef))
theorem Ci:∀{l:List ResultVar} {vs:List AV} {T:Nat->Nat->Prop} {s s':St},xN P aa l s=some (vs,s')->Pre ρ T s s' w->dp ρ aa a->∃vs',(l.mapM (IZ a.tmps)).run P w= .ok vs' w/\bO ρ vs vs'/\Post ρ T s w ρ s' w
 |[],vs,T,s,s',h,hp,ha=>by cases h;exact⟨[],rfl,.nil,Post.refl hp⟩
 | .tmp t::l,vs,T,s,s',h,hp,ha=>by
   unfold xN at h;split at h
   ·rename_i h1
    cases h;obtain⟨vs',g1,g2,g3⟩:=Ci h1 hp ha;refine⟨_::vs',?_,.cons _ _ _ _ (ha.get t) g2,g3⟩;simp only[List.mapM_cons,IZ,Sem.run_bind,Sem.run_pure,Result.andThen_ok,g1]
   ·cases h
 | .cell x t::l,vs,T,s,s',h,hp,ha=>by
   unfold xN at h;split at h
   ·rename_i h1
    split at h
    ·rename_i h2
     cases h;have m1:=mU h1;have m2:=nK h2;obtain⟨v',g1,g2,g3⟩:=IY h1 (hp.first m2) (ha.get x);obtain⟨vs',f1,f2,f3⟩:=Ci h2 (hp.next m1 m2 g2) ha;refine⟨v'::vs',?_,.cons _ _ _ _ g3 f2,Post.trans m1 m2 g2 f3⟩;rw[List.mapM_cons,Sem.run_bind];show((asAddr (a.tmps.getD x undef)>>=fun ad=>loadVar t ad).run P w).andThen _=_
     rw[g1];simp only[Sem.run_bind,Sem.run_pure,Result.andThen_ok,f1]
    ·cases h
   ·cases h
theorem I0{fn:Func}{vs:List AV}(h:xN P aa fn.results.toList s=some (vs,s'))(hp:Pre ρ T s s' w)(ha:dp ρ aa a):∃v,(results fn a.tmps).run P w= .ok v w/\VR ρ (jbf vs) v/\Post ρ T s w ρ s' w:=by
 obtain⟨vs',g1,g2,g3⟩:=Ci h hp ha
 have e:results fn a.tmps=(do let vs<-fn.results.mapM (IZ a.tmps);pure (if h:vs.size=1 then vs[0] else .tuple vs)):=by
  unfold results;congr 1
 refine⟨if h:vs'.toArray.size=1 then vs'.toArray[0] else .tuple vs'.toArray,?_,?_,g3⟩
 ·rw[e,Array.mapM_eq_mapM_toList]
  simp only[Sem.run_bind,Sem.run_map,g1,Result.andThen_ok,Sem.run_pure]
 ·cases g2 with
  |nil=>exact .tuple _ _ .nil
  |cons x v l ls hx ht=>
   cases ht with
   |nil=>exact hx
   |cons y u l2 ls2 hy Cq=>
    have:¬((v::u::ls2).toArray.size=1):=by simp
    rw[dif_neg this];exact .tuple _ _ (by simpa using bO.cons _ _ _ _ hx (.cons _ _ _ _ hy Cq))
theorem gm{n:Nat}{old l:List LE}{e:LE}:e∈sH n old l<->e∈old\/e∈l/\e.blk<n:=by
 induction l with
 |nil=>simp[sH]
 |cons x l ih=>
  unfold sH;split
  ·rename_i hx
   rw[List.mem_cons,ih,List.mem_cons];constructor
   ·rintro(rfl|h|h)
    ·exact .inr ⟨.inl rfl,hx⟩
    ·exact .inl h
    ·exact .inr ⟨.inr h.1,h.2⟩
   ·rintro(h|⟨rfl|h,h2⟩)
    ·exact .inr (.inl h)
    ·exact .inl rfl
    ·exact .inr (.inr ⟨h,h2⟩)
  ·rename_i hx
   rw[ih,List.mem_cons];constructor
   ·rintro(h|h)
    ·exact .inl h
    ·exact .inr ⟨.inr h.1,h.2⟩
   ·rintro(h|⟨rfl|h,h2⟩)
    ·exact .inl h
    ·exact absurd h2 hx
    ·exact .inr ⟨h,h2⟩
def St.cut(s q:St):St:={q with log:=sH s.n s.log q.log}
theorem aF.cut{q:St}(m:aF {s with log:=[]} q)(bf:ki s):aF s (s.cut q):=by
 have hw0:ki {s with log:=[]}:=bf;have hlt:∀b x,s.heap.get b=some x->b<s.n:=fun b x h=>fY bf h;refine⟨m.n,fun e he=>gm.2 (.inl he),fun _=>m.wf hw0,fun _ b x hb hn=> ?_,fun _ b x' hb h hl=>m.lv hw0 b x' hb h hl,fun _ e he=> ?_,fun _ hb e he=> ?_⟩
 ·have h1:=m.keep hw0 b x hb (fun hm=>hn (gm.2 (.inr ⟨hm,hlt b x hb⟩)))
  cases x with
  |cells t cs=>
   obtain⟨cs',g1,g2,g3⟩:=h1;refine⟨cs',g1,g2,fun i hi=>g3 i (fun e he hw=> ?_)⟩;have Fx:e.blk=b:=by cases e<;>first|exact hw.1|exact hw.elim
   exact hi e (gm.2 (.inr ⟨he,by rw[Fx];exact hlt b _ hb⟩)) hw
  |_=>exact h1
 ·rcases gm.1 he with h1|⟨h1,h2⟩
  ·exact .inl h1
  ·rcases m.lw hw0 e h1 with h3|h3|h3
   ·cases h3
   ·exact .inr (.inl h3)
   ·exact .inr (.inr h3)
 ·rcases gm.1 he with h1|⟨h1,h2⟩
  ·have:=hb e h1
   have:=m.n;show e.blk<q.n;have:s.n<=q.n:=m.n;omega
  ·have:s.n<=q.n:=m.n
   show e.blk<q.n;omega
theorem Pre.cut{q:St}(m:aF {s with log:=[]} q)(hp:Pre ρ T s (s.cut q) w):Pre ρ T {s with log:=[]} q w:=
 ⟨hp.good,fun e he hb=>hp.o8 e (gm.2 (.inr ⟨he,hb⟩)) hb,hp.fresh,hp.wf,hp.tn⟩
theorem Post.cut{q:St}{ρ':Env}(m:aF {s with log:=[]} q)(hp:Pre ρ T s (s.cut q) w)(h:Post ρ T {s with log:=[]} w ρ' q w'):Post ρ T s w ρ' (s.cut q) w':=by
 have hw0:ki {s with log:=[]}:=hp.wf
 have key:∀e∈q.log,∀r,ρ e.blk=some r->e∈(s.cut q).log:=by
  intro e he r hr;refine gm.2 (.inr ⟨he,?_⟩);have h1:e.blk<q.n:=m.lb hw0 (by simp) e he;rcases Nat.lt_or_ge e.blk s.n with h2|h2
  ·exact h2
  ·rw[hp.fresh e.blk h2 h1] at hr;cases hr
 have hall:∀B,All ρ q.log B->All ρ (s.cut q).log B:=fun B ⟨b,r,h1,h2,h3⟩=>⟨b,r,key _ h1 r h2,h2,h3⟩
 have jbE:∀B o,ML ρ q.log B o->ML ρ (s.cut q).log B o:=fun B o ⟨e,he,r,h1,h2,h3⟩=>⟨e,key e he r h1,r,h1,h2,h3⟩
 exact⟨h.ext,h.new,fun b r h1 h2 h3=>hall _ (h.fr b r h1 h2 h3),h.good,⟨h.fG.os,h.fG.tape,h.fG.output,h.fG.size,fun B hB hn=>h.fG.block B hB (fun o hw=>hn o (jbE B o hw)),fun B c t fr hc MM=>by
  obtain⟨c',g1,g2,g3⟩:=h.fG.cells B c t fr hc (fun ha=>MM (hall B ha));exact⟨c',g1,g2,fun o ho=>g3 o (fun hw=>ho (jbE B o hw))⟩⟩⟩
end
def DM(ρ:Env):Option AV->FrameMode->Prop
 |none,.returning=>True
 |some v,.panicking ch=>∃v',ch=[{v:=v',recovered:=false}]/\VR ρ v v'
 |_,_=>False
theorem DM.mono{ρ ρ':Env}{p:Option AV}{u:FrameMode}(h:DM ρ p u)(hr:ρ.le ρ'):DM ρ' p u:=by
 cases p<;>cases u<;>try exact h
 obtain⟨v',h1,h2⟩:=h;exact⟨v',h1,h2.mono hr⟩
theorem DM.run{ρ:Env}{p:Option AV}{u:FrameMode}(h:DM ρ p u):u≠.run:=by
 rintro rfl;cases p<;>exact h
def xh(P:Program)(D:kO):Prop:=∀f args p s p' s',D f args p s=some (p',s')->ki s->aF s s'/\∀(ρ:Env) (T:Nat->Nat->Prop) (w:World) (vs:Array Value) (u:FrameMode),Pre ρ T s s' w->bO ρ args vs.toList->DM ρ p u->
 (∀w1,(callFunc f vs).run P w1= .ok (.enter f vs) w1)/\∀n,CallsDIn Fence.wide n P f vs u w (fun e u' w'=>(∃v,e= .returned v)/\∃ρ',Post ρ T s w ρ' s' w'/\DM ρ' p' (settle u'))
section
variable {P:Program} {D:kO} {C:Callee}
theorem fH(hD:xh P D):∀{l:List DE} {p p':Option AV} {s s':St},gz D l p s=some (p',s')->ki s->aF s s'
 |[],p,p',s,s',h,_=>by cases h;exact aF.refl _
 | .mark b::l,p,p',s,s',h,bf=>by
   unfold gz at h;split at h
   ·rename_i hb
    have m1:aF s ((s.put b .dead).note (.all b)):=aF.cv _ _ _ ⟨_,hb,trivial⟩;exact m1.trans (fH hD h (m1.wf bf))
   ·cases h
 | .fn f args::l,p,p',s,s',h,bf=>by
   unfold gz at h;split at h
   ·rename_i h1
    have m1:=(hD _ _ _ _ _ _ h1 bf).1;exact m1.trans (fH hD h (m1.wf bf))
   ·cases h
theorem pq(hD:xh P D){n:Nat}{fn:Func}{tmps:Array Value}{R:Ending->World->Prop}:∀{l:List DE} {ds:List Deferred} {p p':Option AV} {s s':St} {ρ:Env} {T:Nat->Nat->Prop} {w:World} {u:FrameMode},gz D l p s=some (p',s')->Pre ρ T s s' w->qE ρ l ds->DM ρ p u->
 (∀ρ' w' u',Post ρ T s w ρ' s' w'->DM ρ' p' u'->LeavesIn Fence.wide n P fn tmps R [] u' w')->LeavesInM Fence.wide n P fn tmps R ds u w
 |[],ds,p,p',s,s',ρ,T,w,u,h,hp,hd,hu,hk=>by
  cases h;cases hd;exact hk ρ w u (Post.refl hp) hu
 | .mark b::l,ds,p,p',s,s',ρ,T,w,u,h,hp,hd,hu,hk=>by
   unfold gz at h;split at h
   ·rename_i hb
    cases hd with
    |cons _ d _ ds jf nU=>
    cases jf with
    |mark _ r hr=>
    have m1:aF s ((s.put b .dead).note (.all b)):=aF.cv _ _ _ ⟨_,hb,trivial⟩;have m2:=fH hD h (m1.wf hp.wf);have hT:∃i,T b i:=⟨0,hp.o8 (.all b) (m2.log _ (List.mem_cons_self ..)) (fY hp.wf hb) b 0 rfl⟩
    obtain⟨r1,h1,h2⟩:=hp.good.sat b _ hb hT;have:r1=r:=i_ (h1.symm.trans hr);subst this;have W8:Post ρ T s w ρ ((s.put b .dead).note (.all b)) (w.putObj r1.blk (.deferred none)):=Post.alt (x':= .dead) hp.good hb trivial hT hr (VM w _ h2) trivial;refine⟨hu.run,.inl ⟨r1.blk,_,rfl,run_takeDeferred h2,?_⟩⟩;exact pq hD h (hp.next m1 m2 W8) nU hu (fun ρ' w' u' aM zq=>hk ρ' w' u' (Post.trans m1 m2 W8 aM) zq)
   ·cases h
 | .fn f args::l,ds,p,p',s,s',ρ,T,w,u,h,hp,hd,hu,hk=>by
   unfold gz at h;split at h
   ·rename_i p1 s1 h1
    cases hd with
    |cons _ d _ ds jf nU=>
    cases jf with
    |fn _ _ cap as bo=>
    obtain⟨m1,k1⟩:=hD _ _ _ _ _ _ h1 hp.wf;have m2:=fH hD h (m1.wf hp.wf);obtain⟨he,hc⟩:=k1 ρ T w (as++cap) u (hp.first m2) bo hu;refine⟨hu.run,.inr ⟨fun hh=>by simp[Fence.wide] at hh,.func f,cap,f,as++cap,rfl,he w,fun _ _=>trivial,trivial,fun c cs kG hroom=> ?_⟩⟩;obtain⟨_,hc'⟩:=hc (n-1);obtain⟨e,u',w',fr,⟨⟨v,hv⟩,ρ',aM,zq⟩,Sb⟩:=hc' c cs kG hroom;subst hv;exact⟨.returned v,u',w',fr,pq hD h (hp.next m1 m2 aM) (nU.mono aM.ext) zq (fun WM w2 u2 IQ nv=>hk WM w2 u2 (Post.trans m1 m2 aM IQ) nv),Sb⟩
   ·cases h
theorem Fl{ρ:Env}:∀(l:List AV) (vs:List Value) (i:Nat) (aa:bI) (ts:Array Value),bO ρ l vs->dp ρ aa {tmps:=ts,defers:=[]}->dp ρ (y9 l i aa) {tmps:=(vs.zipIdx i).foldl (fun ts p=>ts.setIfInBounds p.2 p.1) ts,defers:=[]}
 |[],_,i,aa,ts,.nil,h=>h
 |x::l,_,i,aa,ts,.cons _ v _ vs hx ht,h=>by
  exact Fl l vs (i+1) (aa.oZ i x) (ts.setIfInBounds i v) ht (h.oZ i hx)
theorem Fm:∀(vs:List Value) (i:Nat) (ts:Array Value),i+vs.length<=ts.size->(∀j,((vs.zipIdx i).foldl (fun ts p=>ts.setIfInBounds p.2 p.1) ts)[j]? =if i<=j/\j<i+vs.length then vs[j-i]?else ts[j]?)
 |[],i,ts,h,j=>by simp;omega
 |v::vs,i,ts,h,j=>by
  simp only[List.length_cons] at h;rw[List.zipIdx_cons,List.foldl_cons,Fm vs (i+1) _ (by simp;omega)];by_cases h1:i+1<=j/\j<i+1+vs.length
  ·rw[if_pos h1,if_pos (by simp;omega)]
   have:j-i=(j-(i+1))+1:=by omega
   rw[this,List.getElem?_cons_succ]
  ·rw[if_neg h1]
   by_cases h2:j=i
   ·subst h2
    rw[if_pos ⟨n_,by simp⟩,Array.getElem?_setIfInBounds_self_of_lt (by omega)];simp
   ·rw[if_neg (by simp;omega),Array.getElem?_setIfInBounds_ne (Ne.symm h2)]
theorem Fo{ρ:Env}{l:List AV}{vs:Array Value}{m:Nat}(h:bO ρ l vs.toList)(hl:l.length<=m):dp ρ (y9 l 0 ⟨m,.leaf,[]⟩) {tmps:=vs++Array.replicate (m-vs.size) undef,defers:=[]}:=by
 have h0:dp ρ ⟨m,.leaf,[]⟩ {tmps:=Array.replicate m undef,defers:=[]}:=by
  refine⟨by simp,fun t=> ?_,.nil⟩
  have:(Array.replicate m undef).getD t undef=undef:=by
   simp[Array.getD_eq_getD_getElem?,Array.getElem?_replicate];split<;>rfl
  rw[this];exact mV
 have h1:=Fl l vs.toList 0 _ _ h h0;have hz:vs.size=l.length:=h.size
 have e:(vs.toList.zipIdx 0).foldl (fun ts p=>ts.setIfInBounds p.2 p.1) (Array.replicate m undef)=vs++Array.replicate (m-vs.size) undef:=by
  apply Array.ext_getElem?;intro j;rw[Fm _ _ _ (by simp;omega)];by_cases hj:j<vs.size
  ·rw[if_pos (by simp;omega),Array.getElem?_append_left hj]
   simp
  ·rw[if_neg (by simp;omega),Array.getElem?_append_right (by omega)]
   simp only[Array.getElem?_replicate];by_cases h3:j<m
   ·rw[if_pos h3,if_pos (by omega)]
   ·rw[if_neg h3,if_neg (by omega)]
 rw[e] at h1;exact h1
end
def dJ(P:Program):Bool:=P.funcs.all fun fn=>fn.body.isNone||fn.name != "runtime.NumGoroutine"
theorem enters{P:Program}(hP:dJ P=true){f:FuncId}{fn:Func}{c:Code}(hf:P.funcs[f]? =some fn)(hb:fn.body=some c)(vs:Array Value)(w:World):(callFunc f vs).run P w= .ok (.enter f vs) w:=by
 have h:=Array.all_eq_true.1 hP f (Array.getElem?_eq_some_iff.1 hf).1;have e:P.funcs[f]'(Array.getElem?_eq_some_iff.1 hf).1=fn:=(Array.getElem?_eq_some_iff.1 hf).2;rw[e,hb] at h
 have h2:(fn.name== "runtime.NumGoroutine")=false:=by
  simp only[Option.isNone_some,Bool.false_or,bne_iff_ne,ne_eq] at h;simpa using h
 unfold callFunc;simp only[Sem.run_bind];have jbF:(program).run P w= .ok P w:=rfl;rw[jbF];simp only[Result.andThen_ok,hf,h2,hb,Option.isNone_some,Bool.false_eq_true,if_false,Sem.run_pure]
def jz(P:Program)(O:Told):Prop:=∀f g,O f=some g->∀args s v s',g args s=some (v,s')->ki s->aF s s'/\∀(ρ:Env) (T:Nat->Nat->Prop) (w:World) (vs:Array Value),Pre ρ T s s' w->bO ρ args vs.toList->
 (∀w1,(callFunc f vs).run P w1= .ok (.enter f vs) w1)/\∀n,CallsIn Fence.wide n P f vs w (fun e w'=>∃ρ',Post ρ T s w ρ' s' w'/\Cc ρ' (.ret v) e)
section
variable {P:Program} {D:kO} {C:Callee}
theorem Ke(hP:dJ P=true)(hm:P.follows .mixedOrders=true)(hC:dN P C)(hD:xh P D)(fuel:Nat):dN P (body P C D fuel):=by
 intro f args s res s' h bf;unfold body at h;split at h
 ·rename_i fn hf
  split at h
  ·rename_i c hb
   split at h
   ·rename_i hlen
    split at h
    ·rename_i e xZ s1 hev
     split at h
     ·rename_i p hend
      have hw0:ki {s with log:=[]}:=bf;obtain⟨m1,k1⟩:=(Sn hm hC fuel).1 false _ _ _ _ _ _ hev hw0
      have main:∀(p':Option AV) (s2 q:St),gz D xZ.defs p s1=some (p',s2)->aF s2 q->s'=s.cut q->
       (∀(ρ:Env) (T:Nat->Nat->Prop) (w:World) (a:Act) (u:FrameMode) (n:Nat) (R:Ending->World->Prop),Pre ρ T s2 q w->dp ρ xZ a->DM ρ p' u->(∀ρ' w' e,Post ρ T s2 w ρ' q w'->Cc ρ' res e->R e w')->LeavesIn Fence.wide n P fn a.tmps R [] u w)->
       aF s s'/\∀(ρ:Env) (T:Nat->Nat->Prop) (w:World) (vs:Array Value),Pre ρ T s s' w->bO ρ args vs.toList->
        (∀w1,(callFunc f vs).run P w1= .ok (.enter f vs) w1)/\∀n,CallsIn Fence.wide n P f vs w (fun e w'=>∃ρ',Post ρ T s w ρ' s' w'/\Cc ρ' res e):=by
       intro p' s2 q hrd m3 hs' Bb;subst hs';have m2:=fH hD hrd (m1.wf hw0);have Zs:=m1.trans (m2.trans m3);refine⟨Zs.cut bf,fun ρ T w vs hp bo=>⟨fun w1=>enters hP hf hb vs w1,fun n=> ?_⟩⟩;have hp0:=hp.cut Zs;refine callsIn_of_wp_marks hf hb trivial ?_;refine wpIn_mono (k1 ρ T w _ none n (fun _=>rfl) (hp0.first (m2.trans m3)) (Fo bo hlen)) ?_;rintro E a1 w1 ⟨iI,g1,g2,g3⟩;have Xx:=hp0.next m1 (m2.trans m3) g1
       have fin:∀u,DM iI p u->LeavesInM Fence.wide n P fn a1.tmps (fun e w'=>∃ρ',Post ρ T s w ρ' (s.cut q) w'/\Cc ρ' res e) a1.defers u w1:=by
        intro u hu;refine pq hD hrd (Xx.first m3) g2.defs hu (fun WM w2 u2 h2 nv=> ?_);refine Bb WM _ w2 a1 u2 n _ (Xx.next m2 m3 h2) (g2.mono h2.ext) nv (fun ρ3 w3 e3 h3 hr3=> ?_);exact⟨ρ3,Post.cut Zs hp (Post.trans m1 (m2.trans m3) g1 (Post.trans m2 m3 h2 h3)),hr3⟩
       cases e<;>cases E<;>simp only[Zr] at g3<;>simp only[WL,Option.some.injEq,reduceCtorEq] at hend
       ·subst hend;exact fin .returning trivial
       ·subst hend;exact fin .returning trivial
       ·subst hend;exact fin _ g3
      split at h
      ·rename_i s2 hrd
       split at h
       ·rename_i vs s3 hres
        cases h;refine main none s2 s3 hrd (nK hres) rfl (fun ρ T w a u n R hp ha hu hk=> ?_);cases u with
        |run=>exact hu.elim
        |panicking ch=>exact hu.elim
        |returning=>
        obtain⟨v,g1,g2,g3⟩:=I0 hres hp ha;exact⟨v,g1,hk ρ w _ g3 g2⟩
       ·cases h
      ·rename_i v s2 hrd
       cases h;refine main (some v) s2 s2 hrd (aF.refl _) rfl (fun ρ T w a u n R hp ha hu hk=> ?_);cases u with
       |run=>exact hu.elim
       |returning=>exact hu.elim
       |panicking ch=>exact hk ρ w _ (Post.refl hp) hu
      ·cases h
     ·cases h
    ·cases h
   ·cases h
  ·cases h
 ·cases h
theorem uz{O:Told}(hP:dJ P=true)(hm:P.follows .mixedOrders=true)(hO:jz P O)(hD:xh P D)(fuel:Nat):∀d,dN P (call P O D fuel d)
 |0=>fun f args s res s' h=>by simp[call] at h
 |d+1=>fun f args s res s' h bf=>by
  unfold call at h;split at h
  ·rename_i g hg
   split at h
   ·rename_i v s1 h1
    cases h;exact hO f g hg _ _ _ _ h1 bf
   ·exact Ke hP hm (uz hP hm hO hD fuel d) hD fuel f args s res s' h bf
  ·exact Ke hP hm (uz hP hm hO hD fuel d) hD fuel f args s res s' h bf
end
end
section
open Go Go.RowKit
def Nl(c:Nat):List Nat->Nat->Int
 |[],_=> -1
 |x::l,i=>if x==c then i else Nl c l (i+1)
def zX:List AV->St->Option (AV×St)
 |[.str x,.str [c]],s=>some (.int .i64 (Nl c x 0),s)
 |_,_=>none
def zW:List AV->St->Option (AV×St)
 |[.str x],s=>if x.length<1000000 then some (.str x,s) else none
 |_,_=>none
def zU(l:List (TypeId×Nat)):List AV->St->Option (AV×St)
 |[.ptr b 0],s=>match s.heap.get b with
  |some (.cells t (.kK::z))=>if l.any (fun p=>t==2*p.1+1&&z.length+1==p.2) then some (.tuple [],(s.put b (.cells t (.ptr b 0::z))).note (.wr b 0 1)) else none
  |some (.cells t (.ptr b' 0::z))=>if l.any (fun p=>t==2*p.1+1&&z.length+1==p.2)/\b'=b then some (.tuple [],s.note (.rd b 0 1)) else none
  |_=>none
 |_,_=>none
def na(c:Nat):List Nat->Nat
 |[]=>0
 |x::l=>if x=c then na c l+1 else na c l
def zV:List AV->St->Option (AV×St)
 |[.str l,.str [c]],s=>some (.int .i64 (Int.ofNat (na c l)),s)
 |_,_=>none
def km:List AV->St->Option (AV×St)
 |[.str l,.int .u8 (.ofNat c)],s=>if c<256 then some (.int .i64 (Nl c l 0),s) else none
 |_,_=>none
def tT(k1 k2 v:AV):List AV->St->Option (AV×St)
 |[],s=>some (.map s.n,s.new (.pmap [⟨k1,v,0⟩,⟨k2,v,1⟩]))
 |_,_=>none
section
variable {P:Program} {ρ:Env} {T:Nat->Nat->Prop} {s s':St} {w w':World}
theorem Post.below(h:Good ρ T s.heap.get w)(hs:s'.heap=s.heap)(hn:s'.n=s.n)(hw:Below w.heap.size w w'):Post ρ T s w ρ s' w':=by
 have hk:∀b r,ρ b=some r->w'.heap[r.blk]? =w.heap[r.blk]? :=fun b r hb=>hw.block _ (h.old b r hb);refine⟨Env.le_refl ρ,fun b r h=> .inl h,fun b r h1 h2 _=>(nomatch (h1.symm.trans h2)),?_,⟨hw.os,hw.tape,hw.output,hw.size,fun B hB _=>hw.block B hB,fun B c t fr hc _=>⟨c,(hw.block B (jb hc)).trans hc,rfl,fun _ _=>rfl⟩⟩⟩;rw[hn,qx];exact⟨fun b x hb hT=>by rw[hs] at hb;exact(h.sat b x hb hT).mono (Env.le_refl ρ) (fun _ h=>h) (fun r hr=>hk b r hr),fun b b' r r' x x' hx NJ hl hl' ht kH hr nL e=>by rw[hs] at hx NJ;exact h.inj b b' r r' x x' hx NJ hl hl' ht kH hr nL e,fun b r hb=>l_ (h.old b r hb) hw.size⟩
def rV(P:Program)(f:FuncId)(g:List AV->St->Option (AV×St)):Prop:=∀args s v s',g args s=some (v,s')->ki s->aF s s'/\∀(ρ:Env) (T:Nat->Nat->Prop) (w:World) (vs:Array Value),Pre ρ T s s' w->bO ρ args vs.toList->
 Calls P f vs w (fun e w'=>∃ρ',Post ρ T s w ρ' s' w'/\Cc ρ' (.ret v) e)
theorem Zt{x:AV}{vs:Array Value}(h:bO ρ [x] vs.toList):∃x',vs=#[x']/\VR ρ x x':=by
 rcases vs with⟨l⟩
 cases h with
 |cons _ x' _ _ hx ht=>cases ht;exact⟨x',rfl,hx⟩
theorem Zu{x y:AV}{vs:Array Value}(h:bO ρ [x,y] vs.toList):∃x' y',vs=#[x',y']/\VR ρ x x'/\VR ρ y y':=by
 rcases vs with⟨l⟩
 cases h with
 |cons _ x' _ _ hx ht=>cases ht with
  |cons _ y' _ _ hy ht=>cases ht;exact⟨x',y',rfl,hx,hy⟩
theorem Cj(c:Nat)(hc:c<256):∀(l:List Nat) (i:Nat),(∀x∈l,x<256)->Nl c l i=if Lib.indexByte (l.map UInt8.ofNat) (UInt8.ofNat c)= -1 then-1 else Lib.indexByte (l.map UInt8.ofNat) (UInt8.ofNat c)+i
 |[],i,_=>by simp[Nl,Lib.indexByte]
 |x::l,i,h=>by
  have ih:=Cj c hc l (i+1) (fun y hy=>h y (List.mem_cons_of_mem _ hy));have hx:=h x (List.mem_cons_self ..);have dS:=Lib.indexByte_ge (l.map UInt8.ofNat) (UInt8.ofNat c)
  have he:(UInt8.ofNat x==UInt8.ofNat c)=(x==c):=by
   rw[Bool.eq_iff_iff];simp only[beq_iff_eq];constructor
   ·intro e
    have:=congrArg UInt8.toNat e;simpa[UInt8.toNat_ofNat',Nat.mod_eq_of_lt hx,Nat.mod_eq_of_lt hc] using this
   ·intro e;rw[e]
  unfold Nl;simp only[List.map_cons,Lib.indexByte,he];by_cases h1:x==c
  ·simp[h1]
  ·simp only[h1,if_false,Bool.false_eq_true,ih,beq_iff_eq]
   by_cases h2:Lib.indexByte (l.map UInt8.ofNat) (UInt8.ofNat c)= -1
   ·simp[h2]
   ·simp only[h2,if_false]
    rw[if_neg (by omega)]
    push_cast
    omega
theorem FT{f:FuncId}(K:∀(s:ByteArray) (c:UInt8) (w:World),Calls P f #[.string s,.string ⟨#[c]⟩] w fun e w'=>e= .returned (.int .i64 (Lib.indexByte s.data.toList c))/\w'=w):rV P f zX:=by
 intro args s v s' h bf;unfold zX at h;split at h
 ·rename_i s0 x c
  cases h;refine⟨aF.refl _,fun ρ T w vs hp bo=> ?_⟩;obtain⟨x',y',rfl,hx,hy⟩:=Zu bo;cases hx with
  |str _ x9=>
  cases hy with
  |str _ mO=>
  refine(K ⟨(x.map UInt8.ofNat).toArray⟩ (UInt8.ofNat c) w).mono ?_
  rintro e w' ⟨rfl,rfl⟩;refine⟨ρ,Post.refl hp,?_⟩;have:=Cj c (mO c (by simp)) x 0 x9;rw[this];simp only[Int.natCast_zero,Int.add_zero];by_cases h2:Lib.indexByte (x.map UInt8.ofNat) (UInt8.ofNat c)= -1
  ·rw[if_pos h2]
   show VR ρ _ (.int .i64 (Lib.indexByte (x.map UInt8.ofNat).toArray.toList (UInt8.ofNat c)));rw[List.toList_toArray,h2];exact .int _ _
  ·rw[if_neg h2]
   exact .int _ _
 ·cases h
theorem FR{f:FuncId}(K:∀(s:ByteArray) (w:World),s.size<=281474976710656->Calls P f #[.string s] w fun e w'=>e= .returned (.string s)/\Below w.heap.size w w'):rV P f zW:=by
 intro args s v s' h bf;unfold zW at h;split at h
 ·rename_i s0 x
  split at h
  ·rename_i hl
   cases h;refine⟨aF.refl _,fun ρ T w vs hp bo=> ?_⟩;obtain⟨x',rfl,hx⟩:=Zt bo;cases hx with
   |str _ x9=>
   refine(K ⟨(x.map UInt8.ofNat).toArray⟩ w (by simp[ByteArray.size];omega)).mono ?_
   rintro e w' ⟨rfl,hb⟩;exact⟨ρ,Post.below hp.good rfl rfl hb,.str x x9⟩
  ·cases h
 ·cases h
theorem FP{f:FuncId}{l:List (TypeId×Nat)}(K1:∀(b:Nat) (w:World),w.cell? ⟨b,0,none⟩=some (.pointer (some ⟨b,0,none⟩))->Calls P f #[.pointer (some ⟨b,0,none⟩)] w fun e w'=>e= .returned (.tuple #[])/\w'=w)(K2:∀(p:TypeId×Nat),p∈l->∀(b:Nat) (w:World),w.cell? ⟨b,0,none⟩=some (.pointer none)->w.shape? b=some (p.1,p.2)->w.frozen? ⟨b,0,none⟩=false->Calls P f #[.pointer (some ⟨b,0,none⟩)] w fun e w'=>e= .returned (.tuple #[])/\w'=w.setCell ⟨b,0,none⟩ (.pointer (some ⟨b,0,none⟩))):rV P f (zU l):=by
 intro args s v s' h bf;unfold zU at h;split at h
 ·rename_i s0 b
  split at h
  ·rename_i t z hb
   split at h
   ·rename_i ht
    obtain⟨p,hpl,hpt⟩:=List.any_eq_true.1 ht;simp only[Bool.and_eq_true,beq_iff_eq] at hpt;obtain⟨ht,hz⟩:=hpt;subst ht;cases h;refine⟨aF.write (off:=0) (n:=1) _ _ hb rfl (fun i hi=> ?_),fun ρ T w vs hp bo=> ?_⟩
    ·cases i with
     |zero=>omega
     |succ i=>rfl
    ·obtain⟨x',rfl,hx⟩:=Zt bo
     cases hx with
     |ptr _ _ r hr=>
     have RY:T b 0:=hp.o8 (.wr b 0 1) (List.mem_cons_self ..) (fY bf hb) b 0 ⟨rfl,n_,Nat.lt_succ_self _⟩;obtain⟨r0,c,fr,q1,q2,q3,q4,q5,q6⟩:=hp.good.sat b _ hb ⟨0,RY⟩;have:r0=r:=i_ (q1.symm.trans hr);subst this;obtain⟨x1,x2⟩:=q4.2 (by omega);have hrn:r0.n=z.length+1:=by simpa using x2
     have hcs:c.size=p.2:=by omega
     rw[nB] at q2;have hat:r0.at 0=⟨r0.blk,0,none⟩:=by unfold RB.at;rw[x1]
     obtain⟨u,hu,hR⟩:=q6 0 .kK rfl RY;cases hR;rw[x1] at hu;have hcell:w.cell? ⟨r0.blk,0,none⟩=some (.pointer none):=by rw[qA q2];exact hu
     have hfz:w.frozen? ⟨r0.blk,0,none⟩=false:=by
      simp only[World.frozen?,q2];exact q5 0 (by omega) (by omega)
     rw[hat];refine(K2 p hpl r0.blk w hcell (by simp[World.shape?,q2,hcs]) hfz).mono ?_
     rintro e w' ⟨rfl,rfl⟩;obtain⟨m1,m2,m3⟩:=sJ q2 0 (.pointer (some ⟨r0.blk,0,none⟩));refine⟨ρ,Post.write (n:=1) hp.good hb ⟨0,RY⟩ hr (c:=c) (c':=c.setIfInBounds 0 (.pointer (some ⟨r0.blk,0,none⟩))) (by rw[nB];exact q2) ⟨rfl,rfl,rfl,m3,by rw[nB];exact m1,m2⟩ (by simp) (fun o ho=> ?_) (Nat.lt_succ_self _) rfl (fun i a ha hTi=> ?_),.tuple _ _ .nil⟩
     ·rw[Array.getElem?_setIfInBounds_ne (by omega)]
     ·rw[x1,Nat.zero_add]
      match i,ha with
      |0,ha=>
       cases ha;refine⟨_,by rw[Array.getElem?_setIfInBounds_self_of_lt (by omega)],?_⟩;have:=VR.ptr (ρ:=ρ) b 0 r0 hr
       rwa [hat] at this
      |i+1,ha=>
       obtain⟨u1,g1,g2⟩:=q6 (i+1) a ha hTi;rw[x1] at g1;exact⟨u1,by rw[Array.getElem?_setIfInBounds_ne (by omega)];simpa using g1,g2⟩
   ·cases h
  ·rename_i t b' z hb
   split at h
   ·rename_i ht
    obtain⟨ht,Fx⟩:=ht;obtain⟨p,hpl,hpt⟩:=List.any_eq_true.1 ht;simp only[Bool.and_eq_true,beq_iff_eq] at hpt;obtain⟨ht,hz⟩:=hpt;subst ht Fx;cases h;refine⟨aF.note _ _ ⟨_,hb,trivial⟩,fun ρ T w vs hp bo=> ?_⟩;obtain⟨x',rfl,hx⟩:=Zt bo;cases hx with
    |ptr _ _ r hr=>
    have RY:=hp.o8 (.rd _ 0 1) (List.mem_cons_self ..) (fY bf hb) _ 0 ⟨rfl,n_,Nat.lt_succ_self _⟩;obtain⟨r0,c,fr,q1,q2,q3,q4,q5,q6⟩:=hp.good.sat _ _ hb ⟨0,RY⟩;have:r0=r:=i_ (q1.symm.trans hr);subst this;obtain⟨x1,x2⟩:=q4.2 (by omega);have hat:r0.at 0=⟨r0.blk,0,none⟩:=by unfold RB.at;rw[x1]
    obtain⟨u,hu,hR⟩:=q6 0 _ rfl RY;cases hR with
    |ptr _ _ r1 hr1=>
    have:r1=r0:=i_ (hr1.symm.trans hr);subst this;rw[x1,hat] at hu;rw[hat];refine(K1 r1.blk w (by rw[qA q2];exact hu)).mono ?_
    rintro e w' ⟨rfl,rfl⟩;exact⟨ρ,Post.same hp.good rfl rfl (Still.refl _),.tuple _ _ .nil⟩
   ·cases h
  ·cases h
 ·cases h
theorem Fp(c:Nat)(hc:c<256):∀l:List Nat,(∀x∈l,x<256)->Lib.countByte (l.map UInt8.ofNat) (UInt8.ofNat c)=na c l
 |[],_=>rfl
 |x::l,h=>by
  have ih:=Fp c hc l (fun y hy=>h y (List.mem_cons_of_mem _ hy));have hx:=h x (List.mem_cons_self ..);unfold Lib.countByte at ih⊢;rw[List.map_cons,List.count_cons,ih,show na c (x::l)=if x=c then na c l+1 else na c l from rfl]
  have he:(UInt8.ofNat x==UInt8.ofNat c)=decide (x=c):=by
   rw[Bool.eq_iff_iff];simp only[beq_iff_eq,decide_eq_true_eq];constructor
   ·intro e
    have:=congrArg UInt8.toNat e;simpa[UInt8.toNat_ofNat',Nat.mod_eq_of_lt hx,Nat.mod_eq_of_lt hc] using this
   ·intro e;rw[e]
  rw[he];by_cases h1:x=c<;>simp[h1]
theorem FQ{f:FuncId}(K:∀(s:ByteArray) (c:UInt8) (w:World),Calls P f #[.string s,.string ⟨#[c]⟩] w fun e w'=>e= .returned (.int .i64 (Lib.countByte s.data.toList c))/\w'=w):rV P f zV:=by
 intro args s v s' h bf;unfold zV at h;split at h
 ·rename_i s0 x c
  cases h;refine⟨aF.refl _,fun ρ T w vs hp bo=> ?_⟩;obtain⟨x',y',rfl,hx,hy⟩:=Zu bo;cases hx with
  |str _ x9=>
  cases hy with
  |str _ mO=>
  refine(K ⟨(x.map UInt8.ofNat).toArray⟩ (UInt8.ofNat c) w).mono ?_
  rintro e w' ⟨rfl,rfl⟩;refine⟨ρ,Post.refl hp,?_⟩;rw[show Lib.countByte (⟨(x.map UInt8.ofNat).toArray⟩:ByteArray).data.toList (UInt8.ofNat c)=na c x by rw[List.toList_toArray];exact Fp c (mO c (by simp)) x x9];exact .int _ _
 ·cases h
theorem uE{f:FuncId}(K:∀(s:ByteArray) (c:Int) (w:World),Calls P f #[.string s,.int .u8 c] w fun e w'=>e= .returned (.int .i64 (Lib.indexByte s.data.toList c.toNat.toUInt8))/\w'=w):rV P f km:=by
 intro args s v s' h bf;unfold km at h;split at h
 ·rename_i s0 x c
  split at h
  ·rename_i hc
   cases h;refine⟨aF.refl _,fun ρ T w vs hp bo=> ?_⟩;obtain⟨x',y',rfl,hx,hy⟩:=Zu bo;cases hx with
   |str _ x9=>
   cases hy;refine(K ⟨(x.map UInt8.ofNat).toArray⟩ (Int.ofNat c) w).mono ?_
   rintro e w' ⟨rfl,rfl⟩;refine⟨ρ,Post.refl hp,?_⟩;have:=Cj c hc x 0 x9;rw[this];simp only[Int.natCast_zero,Int.add_zero];have hcc:(Int.ofNat c).toNat.toUInt8=UInt8.ofNat c:=rfl;by_cases h2:Lib.indexByte (x.map UInt8.ofNat) (UInt8.ofNat c)= -1
   ·rw[if_pos h2]
    show VR ρ _ (.int .i64 (Lib.indexByte (x.map UInt8.ofNat).toArray.toList (Int.ofNat c).toNat.toUInt8));rw[List.toList_toArray,hcc,h2];exact .int _ _
   ·rw[if_neg h2]
    show VR ρ _ (.int .i64 (Lib.indexByte (x.map UInt8.ofNat).toArray.toList (Int.ofNat c).toNat.toUInt8));rw[List.toList_toArray,hcc];exact .int _ _
  ·cases h
 ·cases h
end
end
section
open Go
def Kf(o0 o1:Oper):Option (Tmp×Tmp):=
 match o0.op,o0.dst,o0.guard,o1.op,o1.dst,o1.guard with
 | .call {callee:= .builtin .recover,args:=⟨[]⟩,..},some d0,none,.assign (.tmp t),some d1,none=>if t=d0 then some (d0,d1) else none
 |_,_,_,_,_,_=>none
def rW(P:Program)(fuel:Nat):kO:=fun f args p s=>
 match P.funcs[f]?with
 |some fn=>match fn.body with
  |some (.seq (.region _ ⟨[o0,o1]⟩ false) rest)=>match Kf o0 o1 with
   |some (d0,d1)=>if args.length<=fn.ntmps/\fn.results.toList.isEmpty then
     match ev P (fun _ _ _=>none) fuel false rest (((y9 args 0 ⟨fn.ntmps,.leaf,[]⟩).oZ d0 (p.getD .kL)).oZ d1 (((y9 args 0 ⟨fn.ntmps,.leaf,[]⟩).oZ d0 (p.getD .kL)).get d0)) {s with log:=[]} with
     |some (e,a,s1)=>match e,a.defs with
      | .normal,[]=>some (none,s.cut s1)
      | .ret,[]=>some (none,s.cut s1)
      |_,_=>none
     |none=>none
    else none
   |none=>none
  |_=>none
 |none=>none
section
variable {P:Program}
theorem Fq:dN P (fun _ _ _=>none):=fun f args s res s' h=>by cases h
theorem Sp(hP:dJ P=true)(hm:P.follows .mixedOrders=true)(fuel:Nat):xh P (rW P fuel):=by
 intro f args p s p' s' h bf;unfold rW at h;split at h
 ·rename_i fn hf
  split at h
  ·rename_i id o0 o1 rest hb
   split at h
   ·rename_i d0 d1 hh
    split at h
    ·rename_i hlen
     obtain⟨hlen,hres⟩:=hlen;split at h
     ·rename_i e xZ s1 hev
      obtain⟨m1,k1⟩:=(Sn hm Fq fuel).1 false _ _ _ _ _ _ hev bf
      have main:(e= .normal\/e= .ret)->xZ.defs=[]->p'=none->s'=s.cut s1->aF s s'/\∀(ρ:Env) (T:Nat->Nat->Prop) (w:World) (vs:Array Value) (u:FrameMode),Pre ρ T s s' w->bO ρ args vs.toList->DM ρ p u->
       (∀w1,(callFunc f vs).run P w1= .ok (.enter f vs) w1)/\∀n,CallsDIn Fence.wide n P f vs u w (fun e u' w'=>(∃v,e= .returned v)/\∃ρ',Post ρ T s w ρ' s' w'/\DM ρ' p' (settle u')):=by
       intro he Y' hp' hs';subst hp' hs';refine⟨m1.cut bf,fun ρ T w vs u hp bo hu=>⟨fun w1=>enters hP hf hb vs w1,fun n=> ?_⟩⟩;have hp0:=hp.cut m1;refine callsDIn_of_wpSIn hf hb trivial (fun qa cs hc0=> ?_)
       obtain⟨rv,cs1,u1,U',jcH,S8,Sq⟩:∃rv cs1 u1,VR ρ (p.getD .kL) rv/\cs1={qa with mode:=u1}::cs/\DM ρ none (settle u1)/\(recoverD (qa::cs)=some (rv,cs1)\/recoverD (qa::cs)=none/\rv= .nilIface/\cs1=qa::cs):=by
        cases p with
        |none=>
         cases u with
         |run=>exact hu.elim
         |panicking ch=>exact hu.elim
         |returning=>
          refine⟨.nilIface,qa::cs,.returning,.kL,by rw[<-hc0],trivial,.inr ⟨?_,rfl,rfl⟩⟩;simp[recoverD,hc0]
        |some v=>
         cases u with
         |run=>exact hu.elim
         |returning=>exact hu.elim
         |panicking ch=>
          obtain⟨v',rfl,hv⟩:=hu;refine⟨v',_,.panicking [{v:=v',recovered:=true}],hv,rfl,trivial,.inl ?_⟩;simp[recoverD,hc0]
       unfold Kf at hh;split at hh
       ·rename_i at0 d0' t d1' xj ZO hg0 F6 jf hg1
        split at hh
        ·rename_i htd
         subst htd;cases hh;refine wpSIn_seq (wpSIn_region ?_);have hst:=Fo (m:=fn.ntmps) bo hlen
         have hput:∀(a:Act) (aa:bI) (d:Tmp) (v:AV) (v':Value),dp ρ aa a->VR ρ v v'->dp ρ (aa.oZ d v) (a.put (some d) v'):=fun a aa d v v' ha hv=>by
          have:=ha.put (some d) hv;exact this
         have h1:=hput _ _ d0 (p.getD .kL) rv hst U';have h2:=hput _ _ d1 _ _ h1 (h1.get d0)
         have jcI:∀a:Act,(execOp a.eval o0).run P w= .ok .recover w:=fun a=>by
          unfold execOp;rw[xj];simp[resolve,invoke,builtin]
          try rfl
         have hw0:∀ts,Region.wanted o0 (yielded #[o0,o1] ts)=true:=fun ts=>by unfold Region.wanted;rw[hg0]
         have bu:∀ts,Region.wanted o1 (yielded #[o0,o1] ts)=true:=fun ts=>by unfold Region.wanted;rw[hg1]
         have jcJ:∀a:Act,(execOp a.eval o1).run P w= .ok (.value (a.eval (.tmp d0))) w:=fun a=>by
          unfold execOp;rw[F6];rfl
         have e0:(#[o0,o1]:Array Oper)[0]? =some o0:=rfl;have e1:(#[o0,o1]:Array Oper)[1]? =some o1:=rfl
         have second:wpOpsSIn Fence.wide n P #[o0,o1] (Exit.thenS (rest.wpSIn Fence.wide n P (bodyPostS P fn qa cs fun e u' w'=>(∃v,e=Ending.returned v)/\∃ρ',Post ρ T s w ρ' (s.cut s1) w'/\DM ρ' none (settle u'))) (bodyPostS P fn qa cs fun e u' w'=>(∃v,e=Ending.returned v)/\∃ρ',Post ρ T s w ρ' (s.cut s1) w'/\DM ρ' none (settle u'))) [1]
          (({tmps:=vs++Array.replicate (fn.ntmps-vs.size) undef,defers:=[]}:Act).put (some d0) rv) cs1 w:=by
          simp only[wpOpsSIn,e1,bu,if_true,jcJ,jf];refine⟨fun _ _=>trivial,?_⟩;refine wpSIn_of_wpIn rfl (wpIn_mono (k1 ρ T w _ none n (fun _=>rfl) hp0 h2) ?_);rintro E a2 w2 ⟨WM,g1,g2,g3⟩;have aM:=Post.cut m1 hp g1
          have hds:a2.defers=[]:=by
           have:=g2.defs;rw[Y'] at this;generalize a2.defers=dd at this;cases this;rfl
          have vn:fn.results=#[]:=by
           have:fn.results.toList=[]:=by simpa using hres
           rw[<-Array.toList_inj];exact this
          have r1:=results_none vn a2.tmps P w2
          have fin:a2.defers=[]/\∃u',cs1={qa with mode:=u'}::cs/\∃v,(results fn a2.tmps).run P w2= .ok v w2/\((∃v',Ending.returned v= .returned v')/\∃ρ',Post ρ T s w ρ' (s.cut s1) w2/\DM ρ' none (settle u')):=
           ⟨hds,u1,jcH,_,r1,⟨_,rfl⟩,WM,aM,S8.mono g1.ext⟩
          rcases he with rfl|rfl
          ·cases E<;>first|exact g3.elim|exact fin
          ·cases E<;>first|exact g3.elim|exact fin
         show wpOpsSIn Fence.wide n P #[o0,o1] _ [0,1] _ _ _;rw[wpOpsSIn];simp only[e0,hw0,if_true,jcI,ZO];refine⟨fun _ _=>trivial,?_⟩;rcases Sq with Sq|⟨Sq,jcK,jcL⟩
         ·simp only[Sq]
          exact second
         ·simp only[Sq]
          rw[<-jcK,<-jcL];exact second
        ·cases hh
       ·cases hh
      split at h
      ·rename_i hd
       cases h;exact main (.inl rfl) hd rfl rfl
      ·rename_i hd
       cases h;exact main (.inr rfl) hd rfl rfl
      ·cases h
     ·cases h
    ·cases h
   ·cases h
  ·cases h
 ·cases h
end
end
section
open Go Go.RowKit
section
variable {P:Program} {ρ:Env} {T:Nat->Nat->Prop} {s s':St} {w w':World}
def bs(l:List Nat):ByteArray:=⟨(l.map UInt8.ofNat).toArray⟩
def zY:Option (S0×St)->Bool
 |some (.ret (.bool true),_)=>true
 |_=>false
theorem CK{O:Told}{f:FuncId}{args:List AV}(hP:dJ P=true)(hm:P.follows .mixedOrders=true)(hO:jz P O)(fuel d:Nat)(h:zY (call P O (rW P fuel) fuel d f args ⟨.leaf,0,[]⟩)=true)(vs:Array Value)(hv:bO (fun _=>none) args vs.toList)(w:World):Calls P f vs w (fun e w'=>e= .returned (.bool true)/\Below w.heap.size w w'):=by
 unfold zY at h;split at h
 ·rename_i q hq
  have bf:ki ⟨.leaf,0,[]⟩:=fun b _=>rfl;obtain⟨_,k⟩:=uz hP hm hO (Sp hP hm fuel) fuel d f args _ _ _ hq bf
  have hp:Pre (fun _=>none) (fun _ _=>False) ⟨.leaf,0,[]⟩ q w:=by
   refine⟨⟨fun b x hb=> ?_,fun b b' r r' x x' hb=> ?_,fun b r hb=> ?_⟩,fun e he hb=> ?_,fun b _ _=>rfl,bf,fun b i hb=>hb.elim⟩
   ·cases hb
   ·cases hb
   ·cases hb
   ·exact absurd hb (Nat.not_lt_zero _)
  obtain⟨_,hc⟩:=k _ _ w vs hp hv;refine(callsIn_wide.1 (hc 0)).mono ?_
  rintro e w' ⟨ρ',aM,hres⟩;cases e with
  |panicked ch=>exact hres.elim
  |outgrown=>exact hres.elim
  |returned v'=>
   have hu:=aM.fG;replace hres:VR ρ' (.bool true) v':=hres;cases hres;exact⟨rfl,⟨hu.os,hu.tape,hu.output,hu.size,fun B hB=>hu.block B hB (fun o ⟨e,he,r,h1,_⟩=>by cases h1)⟩⟩
 ·cases h
end
mutual
def qH:AV->AV->Bool
 | .top,.top=>true
 | .bool a,.bool b=>a==b
 | .int k a,.int j b=>decide (k=j)&&a==b
 | .str a,.str b=>decide (a=b)
 | .ptr a b,.ptr c d=>Nat.beq a c&&Nat.beq b d
 | .kK,.kK=>true
 | .slice a b c d e,.slice a' b' c' d' e'=>Nat.beq a a'&&Nat.beq b b'&&Nat.beq c c'&&Nat.beq d d'&&Nat.beq e e'
 | .iw,.iw=>true
 | .map a,.map b=>Nat.beq a b
 | .mD,.mD=>true
 | .func f k l,.func g m n=>Nat.beq f g&&Sr k m&&Sr l n
 | .qd,.qd=>true
 | .iface t a,.iface u b=>Nat.beq t u&&qH a b
 | .kL,.kL=>true
 | .agg a,.agg b=>Sr a b
 | .tuple a,.tuple b=>Sr a b
 |_,_=>false
def Sr:List AV->List AV->Bool
 |[],[]=>true
 |a::l,b::m=>qH a b&&Sr l m
 |_,_=>false
end
theorem jh{a b:Nat}(h:Nat.beq a b=true):a=b:=Nat.eq_of_beq_eq_true h
mutual
theorem xi:∀(a b:AV),qH a b=true->a=b
 | .top,b,h=>by cases b<;>first|rfl|(simp[qH] at h;done)
 | .bool a,b,h=>by cases b<;>first|(simp[qH] at h;done)|(simp only[qH,beq_iff_eq] at h;rw[h])
 | .int k a,b,h=>by cases b<;>first|(simp[qH] at h;done)|(simp only[qH,Bool.and_eq_true,decide_eq_true_eq,beq_iff_eq] at h;rw[h.1,h.2])
 | .str a,b,h=>by cases b<;>first|(simp[qH] at h;done)|(simp only[qH,decide_eq_true_eq] at h;rw[h])
 | .ptr a c,b,h=>by cases b<;>first|(simp only[qH,Bool.and_eq_true] at h;rw[jh h.1,jh h.2])|(simp[qH] at h;done)
 | .kK,b,h=>by cases b<;>first|rfl|(simp[qH] at h;done)
 | .slice a1 a2 a3 a4 a5,b,h=>by cases b<;>first|(simp only[qH,Bool.and_eq_true] at h;rw[jh h.1.1.1.1,jh h.1.1.1.2,jh h.1.1.2,jh h.1.2,jh h.2])|(simp[qH] at h;done)
 | .iw,b,h=>by cases b<;>first|rfl|(simp[qH] at h;done)
 | .map a,b,h=>by cases b<;>first|(simp only[qH] at h;rw[jh h])|(simp[qH] at h;done)
 | .mD,b,h=>by cases b<;>first|rfl|(simp[qH] at h;done)
 | .func f k l,.func g m n,h=>by simp only[qH,Bool.and_eq_true] at h;rw[jh h.1.1,pw k m h.1.2,pw l n h.2]
 | .qd,b,h=>by cases b<;>first|rfl|(simp[qH] at h;done)
 | .iface t a,.iface u c,h=>by simp only[qH,Bool.and_eq_true] at h;rw[jh h.1,xi a c h.2]
 | .kL,b,h=>by cases b<;>first|rfl|(simp[qH] at h;done)
 | .agg a,.agg c,h=>by simp only[qH] at h;rw[pw a c h]
 | .tuple a,.tuple c,h=>by simp only[qH] at h;rw[pw a c h]
 | .yield a,b,h=>by cases b<;>simp[qH] at h
theorem pw:∀(l m:List AV),Sr l m=true->l=m
 |[],[],_=>rfl
 |a::l,b::m,h=>by simp only[Sr,Bool.and_eq_true] at h;rw[xi a b h.1,pw l m h.2]
 |[],_::_,h=>by simp[Sr] at h
 |_::_,[],h=>by simp[Sr] at h
end
def Zv:List ME->List ME->Bool
 |[],[]=>true
 |a::l,b::m=>qH a.k b.k&&qH a.v b.v&&Nat.beq a.born b.born&&Zv l m
 |_,_=>false
theorem I5:∀(l m:List ME),Zv l m=true->l=m
 |[],[],_=>rfl
 |⟨k,v,n⟩::l,⟨k',v',n'⟩::m,h=>by
  simp only[Zv,Bool.and_eq_true] at h;rw[xi _ _ h.1.1.1,xi _ _ h.1.1.2,jh h.1.2,I5 l m h.2]
 |[],_::_,h=>by simp[Zv] at h
 |_::_,[],h=>by simp[Zv] at h
def Ss:bK->bK->Bool
 | .cells t cs,.cells u ds=>Nat.beq t u&&Sr cs ds
 | .map es c,.map fs d=>Nat.beq c d&&Zv es fs
 | .eE m a b c,.eE m' a' b' c'=>decide (m=m')&&decide (a=a')&&decide (b=b')&&decide (c=c')
 | .i1 l p,.i1 m q=>decide (l=m)&&decide (p=q)
 | .pmap es,.pmap fs=>Zv es fs
 | .defd,.defd=>true
 | .dead,.dead=>true
 |_,_=>false
theorem Su:∀(x y:bK),Ss x y=true->x=y
 | .cells t cs,.cells u ds,h=>by simp only[Ss,Bool.and_eq_true] at h;rw[jh h.1,pw _ _ h.2]
 | .map es c,.map fs d,h=>by simp only[Ss,Bool.and_eq_true] at h;rw[jh h.1,I5 _ _ h.2]
 | .eE m a b c,.eE m' a' b' c',h=>by simp only[Ss,Bool.and_eq_true,decide_eq_true_eq] at h;rw[h.1.1.1,h.1.1.2,h.1.2,h.2]
 | .i1 l p,.i1 m q,h=>by simp only[Ss,Bool.and_eq_true,decide_eq_true_eq] at h;rw[h.1,h.2]
 | .pmap es,.pmap fs,h=>by simp only[Ss] at h;rw[I5 _ _ h]
 | .defd,y,h=>by cases y<;>first|rfl|(simp[Ss] at h;done)
 | .dead,y,h=>by cases y<;>first|rfl|(simp[Ss] at h;done)
 | .loop ..,y,h=>by cases y<;>simp[Ss] at h
structure OE where
 b:Nat
 pre:bK
 post:bK
 wr:Bool
structure sQ where
 f:FuncId
 args:List AV
 n0:Nat
 old:List OE
 v:AV
 n1:Nat
 new:List (Nat×bK)
def jcM:bK->Nat
 | .cells _ cs=>cs.length
 |_=>1
def OE.le(o:OE):LE:=if o.wr then .all o.b else .rd o.b 0 (jcM o.pre)
def dP{α:Type}(h:Tr α):List (Nat×α)->Tr α
 |[]=>h
 |p::l=>dP (h.set p.1 p.2) l
def sQ.posts(M:sQ):List (Nat×bK):=M.old.map (fun o=>(o.b,o.post))++M.new
def sQ.start(M:sQ):St:=⟨dP .leaf (M.old.map fun o=>(o.b,o.pre)),M.n0,[]⟩
def sameAt(h:Tr bK)(b:Nat)(x:bK):Bool:=match h.get b with
 |some y=>Ss y x
 |none=>false
def rX(M:sQ)(args:List AV)(s:St):Option (AV×St):=
 if Nat.beq s.n M.n0&&Sr args M.args&&M.old.all (fun o=>sameAt s.heap o.b o.pre) then some (M.v,⟨dP s.heap M.posts,M.n1,M.old.map OE.le++s.log⟩) else none
def isLive:bK->Bool
 | .dead=>false
 |_=>true
def nd:LE->LE->Bool
 | .all b,e=>Nat.beq b e.blk
 | .rd b i n,.rd c j k=>Nat.beq b c&&Nat.ble i j&&Nat.ble (j+k) (i+n)
 |_,_=>false
def covered(c:Tr LE)(e:LE):Bool:=match c.get e.blk with
 |some m=>nd m e
 |none=>false
def sQ.check(M:sQ)(r:Option (S0×St)):Bool:=match r with
 |some (.ret v,q)=>qH v M.v&&Nat.beq q.n M.n1&&q.log.all (covered (dP .leaf (M.old.map fun o=>(o.b,o.le))))&&M.posts.all (fun p=>sameAt q.heap p.1 p.2)&&M.old.all (fun o=>isLive o.pre&&Nat.ble (o.b+1) M.n0&&(o.wr||Ss o.post o.pre))&&M.new.all (fun p=>Nat.ble M.n0 p.1&&Nat.ble (p.1+1) M.n1)&&Nat.ble M.n0 M.n1
 |_=>false
theorem kX{α:Type}{b:Nat}{y:α}:∀{l:List (Nat×α)} {h:Tr α},(dP h l).get b=some y->(b,y)∈l\/(h.get b=some y/\∀z,(b,z)∉l)
 |[],h,hg=> .inr ⟨hg,fun z hz=>by cases hz⟩
 |(c,x)::l,h,hg=>by
  rcases kX (l:=l) hg with h1|⟨h1,h2⟩
  ·exact .inl (List.mem_cons_of_mem _ h1)
  ·rw[Tr.iD] at h1
   by_cases rf:b=c
   ·rw[if_pos rf] at h1
    cases h1;subst rf;exact .inl (List.mem_cons_self ..)
   ·rw[if_neg rf] at h1
    refine .inr ⟨h1,fun z hz=> ?_⟩;rcases List.mem_cons.1 hz with h3|h3
    ·cases h3;exact rf rfl
    ·exact h2 z h3
theorem Nn{m e:LE}(h:nd m e=true){b i:Nat}(he:e.at b i):m.at b i:=by
 cases m with
 |wr c j n=>cases e<;>cases h
 |all c=>
  have hb:c=e.blk:=jh h;cases e with
  |rd d j n=>obtain⟨rfl,_⟩:=he;exact hb
  |wr d j n=>obtain⟨rfl,_⟩:=he;exact hb
  |all d=>cases he;exact hb
 |rd c j n=>
  cases e with
  |wr _ _ _=>cases h
  |all _=>cases h
  |rd d k l=>
   simp only[nd,Bool.and_eq_true] at h;have hb:=jh h.1.1;have h1:=Nat.le_of_ble_eq_true h.1.2;have h2:=Nat.le_of_ble_eq_true h.2;obtain⟨rfl,h3,h4⟩:=he;exact⟨hb,by omega,by omega⟩
theorem I6{m e:LE}(h:nd m e=true):m.blk=e.blk:=by
 cases m with
 |wr c j n=>cases e<;>cases h
 |all c=>exact jh h
 |rd c j n=>
  cases e with
  |wr _ _ _=>cases h
  |all _=>cases h
  |rd d k l=>
   simp only[nd,Bool.and_eq_true] at h;exact jh h.1.1
theorem px{m:LE}{b:Nat}(h:nd m (.all b)=true):m= .all b:=by
 cases m with
 |wr c j n=>cases h
 |rd c j n=>cases h
 |all c=>rw[show c=b from jh h]
theorem Np{m:LE}{b i n:Nat}(h:nd m (.wr b i n)=true):m= .all b:=by
 cases m with
 |wr c j n=>cases h
 |rd c j n=>cases h
 |all c=>rw[show c=b from jh h]
theorem zR{h:Tr bK}{b:Nat}{x:bK}(hs:sameAt h b x=true):h.get b=some x:=by
 unfold sameAt at hs;split at hs
 ·rename_i y hy
  rw[hy,Su _ _ hs]
 ·cases hs
theorem Nq{x:bK}(h:isLive x=true):live x:=by cases x<;>first|trivial|cases h
section
variable {P:Program} {ρ:Env} {T:Nat->Nat->Prop} {s s':St} {w w':World}
theorem Good.sub{h h2:Nat->Option bK}(hG:Good ρ T h w)(hs:∀b y,h2 b=some y->h b=some y):Good ρ T h2 w:=
 ⟨fun b x hb=>hG.sat b x (hs b x hb),fun b b' r r' x x' hx NJ=>hG.inj b b' r r' x x' (hs b x hx) (hs b' x' NJ),hG.old⟩
def im(P:Program)(f:FuncId)(g:List AV->St->Option (AV×St)):Prop:=∀args s v s',g args s=some (v,s')->ki s->aF s s'/\∀(ρ:Env) (T:Nat->Nat->Prop) (w:World) (vs:Array Value),Pre ρ T s s' w->bO ρ args vs.toList->
 (∀w1,(callFunc f vs).run P w1= .ok (.enter f vs) w1)/\∀n,CallsIn Fence.wide n P f vs w (fun e w'=>∃ρ',Post ρ T s w ρ' s' w'/\Cc ρ' (.ret v) e)
def oOr(g1 g2:List AV->St->Option (AV×St)):List AV->St->Option (AV×St):=fun args s=>match g1 args s with
 |some r=>some r
 |none=>g2 args s
theorem im.or{f:FuncId}{g1 g2:List AV->St->Option (AV×St)}(h1:im P f g1)(h2:im P f g2):im P f (oOr g1 g2):=by
 intro args s v s' h bf;unfold oOr at h;split at h
 ·rename_i r hr
  cases h;exact h1 args s v s' hr bf
 ·exact h2 args s v s' h bf
def uG(O:Told)(f0:FuncId)(g:List AV->St->Option (AV×St)):Told:=fun f=>bif Nat.beq f f0 then some (match O f with
 |some g0=>oOr g g0
 |none=>g) else O f
theorem jz.add{O:Told}{f0:FuncId}{g:List AV->St->Option (AV×St)}(hO:jz P O)(hg:im P f0 g):jz P (uG O f0 g):=by
 intro f g1 h;unfold uG at h;cases hb:Nat.beq f f0 with
 |false=>rw[hb] at h;exact hO f g1 h
 |true=>
  rw[hb] at h;have hf:=jh hb;subst hf;simp only[cond_true,Option.some.injEq] at h;cases hO0:O f with
  |none=>rw[hO0] at h;subst h;exact hg
  |some g0=>rw[hO0] at h;subst h;exact hg.or (hO f g0 hO0)
theorem qQ{O:Told}(hP:dJ P=true)(hm:P.follows .mixedOrders=true)(hO:jz P O)(fuel d:Nat)(M:sQ)(hc:M.check (call P O (rW P fuel) fuel d M.f M.args M.start)=true):im P M.f (rX M):=by
 unfold sQ.check at hc;split at hc
 ·rename_i r0 v0 q hq
  simp only[Bool.and_eq_true,List.all_eq_true] at hc;obtain⟨⟨⟨⟨⟨⟨c1,c2⟩,c3⟩,c4⟩,c5⟩,c6⟩,c7⟩:=hc;have e1:=xi _ _ c1;have e2:=jh c2;have e7:=Nat.le_of_ble_eq_true c7;subst e1
  have hold:∀o∈M.old,live o.pre/\o.b<M.n0/\(o.wr=true\/o.post=o.pre):=fun o ho=>by
   have:=c5 o ho;simp only[Bool.or_eq_true] at this;exact⟨Nq this.1.1,Nat.le_of_ble_eq_true this.1.2,this.2.elim .inl (fun h=> .inr (Su _ _ h))⟩
  have I8:∀b y,(b,y)∈M.posts->q.heap.get b=some y/\((∃o∈M.old,o.b=b/\o.post=y)\/(M.n0<=b/\b<M.n1)):=fun b y hy=>by
   refine⟨zR (c4 (b,y) hy),?_⟩;rcases List.mem_append.1 hy with h1|h1
   ·obtain⟨o,ho,he⟩:=List.mem_map.1 h1
    cases he;exact .inl ⟨o,ho,rfl,rfl⟩
   ·have:=c6 (b,y) h1
    exact .inr ⟨Nat.le_of_ble_eq_true this.1,Nat.le_of_ble_eq_true this.2⟩
  have Ck:∀o∈M.old,(o.b,o.post)∈M.posts:=fun o ho=>List.mem_append_left _ (List.mem_map.2 ⟨o,ho,rfl⟩)
  have Ce:∀e∈q.log,∃o∈M.old,nd o.le e=true:=fun e he=>by
   have:=c3 e he;unfold covered at this;split at this
   ·rename_i m VV
    rcases kX VV with h1|⟨h1,_⟩
    ·obtain⟨o,ho,yg⟩:=List.mem_map.1 h1
     have:=(Prod.mk.inj yg).2;subst this;exact⟨o,ho,by assumption⟩
    ·cases h1
   ·cases this
  have Cl:∀o:OE,o.le.blk=o.b:=fun o=>by unfold OE.le;split<;>rfl
  have hst:∀b x,M.start.heap.get b=some x->∃o∈M.old,o.b=b/\o.pre=x:=fun b x hb=>by
   rcases kX hb with h1|⟨h1,_⟩
   ·obtain⟨o,ho,he⟩:=List.mem_map.1 h1
    cases he;exact⟨o,ho,rfl,rfl⟩
   ·cases h1
  have VO:ki M.start:=fun b hb=>by
   cases hx:M.start.heap.get b with
   |none=>rfl
   |some x=>
    obtain⟨o,ho,rfl,_⟩:=hst b x hx;have h1:M.n0<=o.b:=hb;have:=(hold o ho).2.1;omega
  obtain⟨m0,k⟩:=uz hP hm hO (Sp hP hm fuel) fuel d M.f M.args _ _ _ hq VO;intro args s v s' h bf;unfold rX at h;split at h
  ·rename_i ou
   cases h;simp only[Bool.and_eq_true,List.all_eq_true] at ou;obtain⟨⟨d2,d1⟩,d3⟩:=ou;have f1:=pw _ _ d1;have f2:=jh d2;subst f1;have qI:∀o∈M.old,s.heap.get o.b=some o.pre:=fun o ho=>zR (d3 o ho)
   have gZ:∀b y,(dP s.heap M.posts).get b=some y->(q.heap.get b=some y/\((∃o∈M.old,o.b=b/\o.post=y)\/(M.n0<=b/\b<M.n1)))\/(s.heap.get b=some y/\∀o∈M.old,o.b≠b):=fun b y hy=>by
    rcases kX hy with h1|⟨h1,h2⟩
    ·exact .inl (I8 b y h1)
    ·exact .inr ⟨h1,fun o ho e=>h2 o.post (by rw[<-e];exact Ck o ho)⟩
   have Sv:∀b y,s.heap.get b=some y->(∀o∈M.old,o.b≠b)->b<M.n0->(dP s.heap M.posts).get b=some y:=fun b y hy hno hb=>by
    have:∀(l:List (Nat×bK)) (h:Tr bK),(∀z,(b,z)∉l)->(dP h l).get b=h.get b:=by
     intro l
     induction l with
     |nil=>intro h _;rfl
     |cons p l ih=>
      intro h hn;show(dP (h.set p.1 p.2) l).get b=_
      rw[ih _ (fun z hz=>hn z (List.mem_cons_of_mem _ hz)),Tr.iD,if_neg (fun e=>hn p.2 (by rw[e];exact List.mem_cons_self ..))]
    rw[this _ _ (fun z hz=>by
     rcases(I8 b z hz).2 with⟨o,ho,h1,_⟩|h1
     ·exact hno o ho h1
     ·omega)]
    exact hy
   have VP:∀o∈M.old,(dP s.heap M.posts).get o.b=some o.post:=fun o ho=>by
    have hex:∀(l:List (Nat×bK)) (h:Tr bK) (x:bK),(o.b,x)∈l->∃y,(dP h l).get o.b=some y:=by
     intro l
     induction l with
     |nil=>intro h x hx;cases hx
     |cons p l ih=>
      intro h x hx;by_cases dr:∃z,(o.b,z)∈l
      ·obtain⟨z,hz⟩:=dr
       exact ih _ z hz
      ·rcases List.mem_cons.1 hx with h1|h1
       ·have:∀(l:List (Nat×bK)) (h:Tr bK),(∀z,(o.b,z)∉l)->(dP h l).get o.b=h.get o.b:=by
         intro l
         induction l with
         |nil=>intro h _;rfl
         |cons p l ih=>
          intro h hn;show(dP (h.set p.1 p.2) l).get o.b=_
          rw[ih _ (fun z hz=>hn z (List.mem_cons_of_mem _ hz)),Tr.iD,if_neg (fun e=>hn p.2 (by rw[e];exact List.mem_cons_self ..))]
        subst h1;refine⟨x,?_⟩;show(dP (h.set o.b x) l).get o.b=_
        rw[this _ _ (fun z hz=>dr ⟨z,hz⟩),Tr.iD,if_pos rfl]
       ·exact absurd ⟨x,h1⟩ dr
    obtain⟨y,hy⟩:=hex M.posts s.heap o.post (Ck o ho);rcases gZ _ _ hy with⟨h1,_⟩|⟨_,h1⟩
    ·rw[hy,<-h1,(I8 _ _ (Ck o ho)).1]
    ·exact absurd rfl (h1 o ho)
   refine⟨⟨by show s.n<=M.n1;omega,fun e he=>List.mem_append_right _ he,fun _ b hb=> ?_,fun _ b x hx hn=> ?_,fun _ b x' hb hx hl=> ?_,fun _ e he=> ?_,fun _ hb e he=> ?_⟩,fun ρ T w vs hp bo=> ?_⟩
   ·show(dP s.heap M.posts).get b=none
    cases hx:(dP s.heap M.posts).get b with
    |none=>rfl
    |some y=>
     have h1:M.n1<=b:=hb;rcases gZ b y hx with⟨_,⟨o,ho,rfl,_⟩|h2⟩|⟨h2,_⟩
     ·have:=(hold o ho).2.1;omega
     ·omega
     ·rw[bf b (by omega)] at h2;cases h2
   ·show fq _ b x ((dP s.heap M.posts).get b)
    by_cases dr:∃o∈M.old,o.b=b
    ·obtain⟨o,ho,rfl⟩:=dr
     rw[qI o ho] at hx;cases hx;rw[VP o ho];rcases(hold o ho).2.2 with h1|h1
     ·exact absurd (List.mem_append_left _ (List.mem_map.2 ⟨o,ho,by unfold OE.le;rw[if_pos h1]⟩)) hn
     ·rw[h1];exact fq.refl _ _ _
    ·have hno:∀o∈M.old,o.b≠b:=fun o ho e=>dr ⟨o,ho,e⟩
     rw[Sv b x hx hno (by have:=fY bf hx;omega)];exact fq.refl _ _ _
   ·rcases gZ b x' hx with⟨_,⟨o,ho,rfl,_⟩|h2⟩|⟨h2,_⟩
    ·exact⟨_,qI o ho,(hold o ho).1⟩
    ·omega
    ·exact⟨x',h2,hl⟩
   ·rcases List.mem_append.1 he with h1|h1
    ·obtain⟨o,ho,rfl⟩:=List.mem_map.1 h1
     exact .inr (.inr ⟨_,by rw[Cl];exact qI o ho,(hold o ho).1⟩)
    ·exact .inl h1
   ·show e.blk<M.n1
    rcases List.mem_append.1 he with h1|h1
    ·obtain⟨o,ho,rfl⟩:=List.mem_map.1 h1
     rw[Cl];have:=(hold o ho).2.1;omega
    ·have:=hb e h1;omega
   ·have Fs:∀o∈M.old,o.le∈M.old.map OE.le++s.log:=fun o ho=>List.mem_append_left _ (List.mem_map.2 ⟨o,ho,rfl⟩)
    have Kg:∀e∈q.log,∀b i,e.at b i->T b i/\∃o∈M.old,o.b=b:=fun e he b i hi=>by
     obtain⟨o,ho,RJ⟩:=Ce e he;have h1:=Nn RJ hi;have h2:=ux hi;have h3:=I6 RJ;rw[Cl] at h3;exact⟨hp.o8 o.le (Fs o ho) (by rw[Cl];have:=(hold o ho).2.1;omega) b i h1,o,ho,h3.trans h2⟩
    have lG:Pre ρ (fun b i=>T b i/\∃o∈M.old,o.b=b) M.start q w:=by
     refine⟨⟨fun b x hx hT=> ?_,fun b b' r r' x x' hx NJ hl hl' hT hT'=> ?_,hp.good.old⟩,fun e he hb b i hi=>Kg e he b i hi,fun b h1 h2=>hp.fresh b (by have:M.n0<=b:=h1;omega) (by show b<M.n1;omega),VO,fun b i hi=>by have:=hp.tn b i hi.1;show b<M.n0;omega⟩
     ·obtain⟨o,ho,rfl,rfl⟩:=hst b x hx
      obtain⟨i,hi,_⟩:=hT;exact(hp.good.sat _ _ (qI o ho) ⟨i,hi⟩).mono (Env.le_refl _) (fun _ h=>h.1) (fun _ _=>rfl)
     ·obtain⟨o,ho,rfl,rfl⟩:=hst b x hx
      obtain⟨o',Ln,rfl,rfl⟩:=hst b' x' NJ;obtain⟨i,hi,_⟩:=hT;obtain⟨i',hi',_⟩:=hT';exact hp.good.inj _ _ r r' _ _ (qI o ho) (qI o' Ln) hl hl' ⟨i,hi⟩ ⟨i',hi'⟩
    obtain⟨hen,hca⟩:=k ρ _ w vs lG bo;refine⟨hen,fun n=>(hca n).mono ?_⟩;rintro e w' ⟨ρ',aM,hres⟩;refine⟨ρ',⟨aM.ext,fun b r hr=> ?_,fun b r h1 h2 h3=> ?_,?_,?_⟩,hres⟩
    ·rcases aM.new b r hr with h1|⟨h1,h2⟩
     ·exact .inl h1
     ·exact .inr ⟨by have:M.n0<=b:=h1;omega,by show b<M.n1;omega⟩
    ·obtain⟨b1,r1,g1,g2,g3⟩:=aM.fr b r h1 h2 h3
     obtain⟨o,ho,RJ⟩:=Ce _ g1;have:o.le= .all b1:=px RJ;exact⟨b1,r1,by rw[<-this];exact Fs o ho,g2,g3⟩
    ·haveI:=fun b=>Classical.propDecidable ((∃o∈M.old,o.b=b)\/(M.n0<=b/\b<M.n1))
     have W9:=pn (h':=fun b=>if(∃o∈M.old,o.b=b)\/(M.n0<=b/\b<M.n1) then q.heap.get b else s.heap.get b) hp.good lG aM m0 rfl (fun b i h=>h.1) (fun b ⟨i,_,o,ho,hb⟩=>by
      subst hb;exact⟨_,qI o ho,(hold o ho).1⟩) (fun b i h1 h2 h3=>by
      have:=hp.tn b i h3;have h4:M.n0<=b:=h1;omega) (fun e he hb i hi=>Kg e he _ i hi) (fun b h1 h2=>if_pos (.inr ⟨h1,by omega⟩)) (fun b y hT hn hy hl=>by
      obtain⟨i,hi⟩:=hT;rw[if_neg] at hy
      ·exact hy
      ·rintro(h1|h1)
       ·exact hn i ⟨hi,h1⟩
       ·have:=hp.tn b i hi
        omega) (fun b y' hT hy hl=>by
      obtain⟨i,hi,o,ho,hb⟩:=hT;rw[if_pos (.inl ⟨o,ho,hb⟩)] at hy;refine⟨y',hy,hl,?_⟩;subst hb;have hz:s.heap.get o.b=some o.pre:=qI o ho;cases y' with
      |cells t cs'=>
       refine⟨cs',rfl,rfl,fun _ _=>rfl,?_⟩;by_cases hall:LE.all o.b∈q.log
       ·exact .inl (fun j=>Kg _ hall _ j rfl)
       ·cases I9:M.start.heap.get o.b with
        |none=>
         obtain⟨z,hz1,_⟩:=m0.lv VO o.b _ (hold o ho).2.1 hy hl;rw[I9] at hz1;cases hz1
        |some x=>
         obtain⟨o2,AW,h5,h6⟩:=hst _ _ I9;have hx:s.heap.get o.b=some x:=by rw[<-h5,<-h6];exact qI o2 AW
         have Fi:=m0.keep VO o.b x I9 hall;have x9:live x:=by rw[<-h6];exact(hold o2 AW).1
         cases x with
         |cells t0 cs0=>
          obtain⟨cs2,k1,k2,k3⟩:=Fi;rw[hy] at k1;cases k1
          exact .inr ⟨cs0,hx,fun j hj=>k3 j (fun e he hw=>hj (Kg e he _ j (by
           cases e with
           |rd=>exact hw.elim
           |all=>exact hw.elim
           |wr c j n=>exact hw)))⟩
         |map a b=>rw[Fi] at hy;cases hy
         |eE a b c d=>rw[Fi] at hy;cases hy
         |i1 a b=>rw[Fi] at hy;cases hy
         |pmap a=>rw[Fi] at hy;cases hy
         |defd=>rw[Fi] at hy;cases hy
         |loop a1 a2 a3 a4 a5 a6 a7 a8=>rw[Fi] at hy;cases hy
         |dead=>exact x9.elim
      |_=>rfl)
     have Eh:M.start.n=s.n:=f2.symm;rw[Eh,e2] at W9;refine W9.sub (fun b y hy=> ?_);show(if _ then _ else _)=_
     rcases gZ b y hy with⟨h1,⟨o,ho,hb,_⟩|h2⟩|⟨h1,h2⟩
     ·rw[if_pos (.inl ⟨o,ho,hb⟩)];exact h1
     ·rw[if_pos (.inr h2)];exact h1
     ·rw[if_neg]
      ·exact h1
      ·rintro(⟨o,ho,hb⟩|h3)
       ·exact h2 o ho hb
       ·rw[bf b (by omega)] at h1;cases h1
    ·have hW:∀B o,ML ρ q.log B o->ML ρ (M.old.map OE.le++s.log) B o:=by
      rintro B o ⟨e,he,r,h1,h2,h3⟩;obtain⟨o2,AW,RJ⟩:=Ce e he;cases e with
      |rd b i n=>exact h3.elim
      |wr b i n=>exact⟨.all b,by rw[<-Np RJ];exact Fs o2 AW,r,h1,h2,trivial⟩
      |all b=>exact⟨.all b,by rw[<-px RJ];exact Fs o2 AW,r,h1,h2,trivial⟩
     have hA:∀B,All ρ q.log B->All ρ (M.old.map OE.le++s.log) B:=by
      rintro B ⟨b,r,h1,h2,h3⟩;obtain⟨o2,AW,RJ⟩:=Ce _ h1;exact⟨b,r,by rw[<-px RJ];exact Fs o2 AW,h2,h3⟩
     have hu:=aM.fG;refine⟨hu.os,hu.tape,hu.output,hu.size,fun B hB hn=>hu.block B hB (fun o ho=>hn o (hW B o ho)),fun B c t fr hc MM=> ?_⟩;obtain⟨c',g1,g2,g3⟩:=hu.cells B c t fr hc (fun h=>MM (hA B h));exact⟨c',g1,g2,fun o ho=>g3 o (fun h=>ho (hW B o h))⟩
  ·cases h
 ·cases hc
end
end
end Go.Proofs.YtpohlhkgbmdieaaGreatDoor.Rk
