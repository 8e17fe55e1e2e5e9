/- Part 15 of the proof. -/
import Derived.Test.YtnocnbklhikmnaaGreatDoorW12
import Derived.Test.YtnocnbklhikmnaaGreatDoorW14
set_option linter.unusedVariables false
set_option maxRecDepth 1000000
set_option maxHeartbeats 16000000
namespace Go.Proofs.YtnocnbklhikmnaaGreatDoor.Rk
open Go
def OR.st:OR->Option St
 | .ok _ s=>some s
 | .pan _ _ s=>some s
 | .no=>none
def ORQ(Q:Exit->Act->World->Prop)(ρ:Env)(T:Nat->Nat->Prop)(s:St)(w:World):OR->Prop
 | .ok aa s'=>∀ρ' a w',Post ρ T s w ρ' s' w'->ActR ρ' aa a->Q .normal a w'
 | .pan aa v s'=>∀ρ' a w' v',Post ρ T s w ρ' s' w'->ActR ρ' aa a->VR ρ' v v'->Q (.panic [{v:=v',recovered:=false}]) a w'
 | .no=>False
section
variable {P:Program} {ρ:Env} {T:Nat->Nat->Prop} {s s':St} {w w':World} {aa:AAct} {a:Act} {C:Callee} {Y:Yielder}
theorem wanted_ok{ops:List Oper}{opsA:Array Oper}{o:Oper}{b:Bool}(h:wantedA ops o aa=some b)(hop:opsA.toList=ops)(hg:∀j c d,o.guard=some (j,c)->(ops[j]?).bind (·.dst)=some d->VR ρ (aa.get d) (a.tmps.getD d undef)):Region.wanted o (yielded opsA a.tmps)=b:=by
 unfold wantedA at h;unfold Region.wanted yielded;cases hgd:o.guard with
 |none=>rw[hgd] at h;cases h;rfl
 |some p=>
  obtain⟨j,c⟩:=p;rw[hgd] at h;have he:opsA[j]? =ops[j]? :=by rw[<-hop,Array.getElem?_toList]
  simp only[he];simp only at h;cases hd:(ops[j]?).bind (·.dst) with
  |none=>rw[hd] at h;cases h;rfl
  |some d=>
   rw[hd] at h;simp only at h;have hv:=hg j c d hgd hd;simp only[Option.bind_some];split at h
   ·rename_i b' hb
    cases h;rw[hb] at hv
    have:a.tmps[d]? =some (.bool b'):=by
     cases hx:a.tmps[d]?with
     |none=>rw[Array.getD_eq_getD_getElem?,hx] at hv;cases hv
     |some x=>
      rw[Array.getD_eq_getD_getElem?,hx] at hv;simp only[Option.getD_some] at hv;cases hv;rfl
    rw[this];cases b'<;>cases c<;>rfl
   ·cases h
   ·rename_i h1 h2
    cases h;cases hx:a.tmps[d]?with
    |none=>rfl
    |some x=>
     rw[Array.getD_eq_getD_getElem?,hx] at hv;simp only[Option.getD_some] at hv;cases x<;>first|rfl|skip
     rename_i bb;generalize haa:aa.get d=y at*;cases hv with
     |top=>exact absurd rfl h2
     |bool=>exact absurd rfl (h1 bb)
theorem ActR.ops(h:ActR ρ aa a)(o:Op):OpsR ρ aa a o:=fun x _=>h.eval x
theorem Post.refl(hp:Pre ρ T s s w):Post ρ T s w ρ s w:=Post.same hp.good rfl rfl (Still.refl w)
theorem oneOp_mono{R:Bool}{o:Oper}{x:OR}(hC:CSound P C)(hY:YSound P Y)(hwf:WfS s)(h:oneOp P C Y R aa o s=x)(hs:x.st=some s'):Mono s s':=by
 subst h;unfold oneOp at hs;split at hs
 ·split at hs
  ·split at hs
   ·cases hs
   ·cases hs;exact Mono.refl _
  ·cases hs
 ·cases hv:oneVal P C Y aa o s with
  |none=>rw[hv] at hs;cases hs
  |some p=>
   obtain⟨res,s1⟩:=p;rw[hv] at hs;have:=oneVal_mono hC hY hv hwf;cases res<;>(cases hs;exact this)
theorem oneOp_ok{R:Bool}{o:Oper}{x:OR}(hC:CSound P C)(hY:YSound P Y)(h:oneOp P C Y R aa o s=x)(hs:x.st=some s')(hp:Pre ρ T s s' w)(ha:ActR ρ aa a){r:Option Nat}(hr:R=false->r=none){n:Nat}{Q:Exit->Act->World->Prop}{K:Act->World->Prop}(hk:ORQ (fun e a w=>match e with| .normal=>K a w|e=>Q e a w) ρ T s w x):o.wpIn (FW r) n P a w K Q:=by
 subst h;unfold oneOp at hs hk;split at hs
 ·rename_i g args ats ho
  split at hs
  ·rename_i f first cap hf
   split at hs
   ·cases hs
   ·rename_i hR
    cases hs;have hrn:=hr (by simpa using hR);subst hrn;simp only[ho,hf] at hk;rw[if_neg hR] at hk;have hg:=ha.eval g;rw[hf] at hg;generalize hgg:a.eval g=g' at hg;cases hg with
    |func _ _ _ k' l' h1 h2=>
    have hargs:=ha.args args
    have hd:DefR ρ (.fn f (first++args.toList.map (aeval aa)++cap)) {target:= .fn (.func f) l',args:=k'++args.map a.eval}:= .fn _ _ _ _ (by
     simp only[Array.toList_append];exact(h1.append hargs).append h2)
    have hrun:(execOp a.eval o).run P w= .ok (.defer {target:= .fn (.func f) l',args:=k'++args.map a.eval}) w:=by
     unfold execOp;rw[ho];simp only[resolve,hgg,Deferred.ofValue,Sem.run_bind,Sem.run_pure,Result.andThen_ok]
    refine⟨fun _ _=>trivial,?_⟩;show o.uponIn (FW none) n P a K Q ((Oper.semAt none a.eval o).run P w);rw[Oper.semAt_none,hrun];have hact:ActR ρ {aa with defs:= .fn f (first++args.toList.map (aeval aa)++cap)::aa.defs} {a with defers:={target:= .fn (.func f) l',args:=k'++args.map a.eval}::a.defers}:=⟨ha.size,ha.get,.cons _ _ _ _ hd ha.defs⟩
    exact hk ρ _ w (Post.refl hp) (hact.put o.dst undef_ok)
  ·cases hs
 ·rename_i hnd
  have hk:ORQ (fun e a w=>match e with| .normal=>K a w|e=>Q e a w) ρ T s w (resOf aa o.dst (oneVal P C Y aa o s)):=by
   split at hk
   ·rename_i g args ats ho
    exact absurd ho (hnd g args ats)
   ·exact hk
  cases hv:oneVal P C Y aa o s with
  |none=>rw[hv] at hs;cases hs
  |some p=>
   obtain⟨res,s1⟩:=p;rw[hv] at hs hk;have hs1:s1=s':=by cases res<;>(cases hs;rfl)
   subst hs1;refine oneVal_ok hC hY hv hp (ha.ops _) (fun ρ' w' hpost=> ?_);cases res with
   |ret v=>exact fun v' hvv=>hk ρ' _ w' hpost ((ha.mono hpost.ext).put o.dst hvv)
   |pan v=>exact fun v' hvv=>hk ρ' a w' v' hpost (ha.mono hpost.ext) hvv
theorem runOps_mono{R:Bool}{ops:List Oper}(hC:CSound P C)(hY:YSound P Y):∀(l:List Oper) {aa:AAct} {s:St} {x:OR} {s':St},WfS s->runOps P C Y R ops l aa s=x->x.st=some s'->Mono s s'
 |[],aa,s,x,s',hwf,h,hs=>by
  unfold runOps at h;subst h;cases hs;exact Mono.refl _
 |o::l,aa,s,x,s',hwf,h,hs=>by
  unfold runOps at h;split at h
  ·cases h1:oneOp P C Y R aa o s with
   |no=>rw[h1] at h;subst h;cases hs
   |pan aa1 v s1=>
    rw[h1] at h;subst h;exact oneOp_mono hC hY hwf h1 hs
   |ok aa1 s1=>
    rw[h1] at h;have m1:=oneOp_mono hC hY hwf h1 rfl;exact m1.trans (runOps_mono hC hY l (m1.wf hwf) h hs)
  ·exact runOps_mono hC hY l hwf h hs
  ·subst h;cases hs
theorem ORQ.after{Q:Exit->Act->World->Prop}{ρ1:Env}{s1:St}{w1:World}{x:OR}{s':St}(hs:x.st=some s')(m1:Mono s s1)(m2:Mono s1 s')(hpost:Post ρ T s w ρ1 s1 w1)(h:ORQ Q ρ T s w x):ORQ Q ρ1 (Tn T s.n s1.n) s1 w1 x:=by
 cases x with
 |no=>cases hs
 |ok aa s2=>cases hs;exact fun ρ' a w' hp ha=>h ρ' a w' (hpost.trans m1 m2 hp) ha
 |pan aa v s2=>cases hs;exact fun ρ' a w' v' hp ha hv=>h ρ' a w' v' (hpost.trans m1 m2 hp) ha hv
theorem runOps_ok{R:Bool}{ops:List Oper}{opsA:Array Oper}(hop:opsA.toList=ops)(hC:CSound P C)(hY:YSound P Y){r:Option Nat}(hr:R=false->r=none){n:Nat}{Q:Exit->Act->World->Prop}:∀(l:List Oper) {aa:AAct} {s:St} {x:OR} {s':St} {ρ:Env} {T:Nat->Nat->Prop} {w:World} {a:Act},
 runOps P C Y R ops l aa s=x->x.st=some s'->Pre ρ T s s' w->ActR ρ aa a->ORQ Q ρ T s w x->wpListIn (FW r) n P opsA Q l a w
 |[],aa,s,x,s',ρ,T,w,a,h,hs,hp,ha,hk=>by
  unfold runOps at h;subst h;cases hs;exact hk ρ a w (Post.refl hp) ha
 |o::l,aa,s,x,s',ρ,T,w,a,h,hs,hp,ha,hk=>by
  unfold runOps at h;have hguard:∀b,wantedA ops o aa=some b->Region.wanted o (yielded opsA a.tmps)=b:=fun b hb=>wanted_ok hb hop (fun j c d _ _=>ha.get d);unfold wpListIn;split at h
  ·rename_i hw
   rw[if_pos (hguard true hw)];cases h1:oneOp P C Y R aa o s with
   |no=>rw[h1] at h;subst h;cases hs
   |pan aa1 v s1=>
    rw[h1] at h;subst h;exact oneOp_ok hC hY h1 hs hp ha hr (fun ρ' a' w' v' hpost ha' hv=>hk ρ' a' w' v' hpost ha' hv)
   |ok aa1 s1=>
    rw[h1] at h;have m1:=oneOp_mono hC hY hp.wf h1 rfl;have m2:=runOps_mono hC hY l (m1.wf hp.wf) h hs;refine oneOp_ok hC hY h1 rfl (hp.first m2) ha hr (fun ρ' a' w' hpost ha'=> ?_);exact runOps_ok hop hC hY hr l h hs (hp.next m1 m2 hpost) ha' (hk.after hs m1 m2 hpost)
  ·rename_i hw
   rw[if_neg (by rw[hguard false hw];simp)];exact⟨fun _ _=>trivial,runOps_ok hop hC hY hr l h hs hp (ha.put o.dst undef_ok) hk⟩
  ·subst h;cases hs
end
theorem hit_all{e:LE}{b i:Nat}(h:e.at b i):(LE.all b).hits e=true/\e.hits (LE.all b)=true:=by
 cases e with
 |rd c j n=>obtain⟨rfl,_⟩:=h;exact⟨by simp[LE.hits,LE.blk],by simp[LE.hits,LE.blk]⟩
 |wr c j n=>obtain⟨rfl,_⟩:=h;exact⟨by simp[LE.hits,LE.blk],by simp[LE.hits,LE.blk]⟩
 |all c=>cases h;exact⟨by simp[LE.hits,LE.blk],by simp[LE.hits,LE.blk]⟩
theorem hit_wr{e f:LE}{b i:Nat}(h:e.at b i)(hf:f.wrote b i):f.hits e=true/\e.hits f=true:=by
 cases f with
 |rd c j n=>exact hf.elim
 |all c=>exact hf.elim
 |wr c j n=>
  obtain⟨rfl,h1,h2⟩:=hf;cases e with
  |rd d k m=>obtain⟨rfl,h3,h4⟩:=h;exact⟨by simp[LE.hits];omega,by simp[LE.hits];omega⟩
  |wr d k m=>obtain⟨rfl,h3,h4⟩:=h;exact⟨by simp[LE.hits];omega,by simp[LE.hits];omega⟩
  |all d=>cases h;exact⟨by simp[LE.hits,LE.blk],by simp[LE.hits,LE.blk]⟩
theorem clash_inv{x y:Stp}(h:x.rc.clash y.rc=false):(∀e∈x.q.log,∀f∈y.q.log,e.hits f=false)/\(∀f∈y.q.log,¬(x.p.n<=f.blk/\f.blk<x.q.n))/\¬(x.wr=true/\y.wr=true):=by
 unfold Rec.clash at h;simp only[Bool.or_eq_false_iff] at h;obtain⟨⟨h1,h2⟩,h3⟩:=h;refine⟨fun e he f hf=> ?_,fun f hf hh=> ?_,fun⟨h4,h5⟩=> ?_⟩
 ·have h4:(y.rc.log.any fun f=>e.hits f)=false:=by simpa using List.any_eq_false.1 h1 e he
  simpa using List.any_eq_false.1 h4 f hf
 ·have:=List.any_eq_false.1 h2 f hf
  unfold LE.made at this;apply this;simp only[Bool.and_eq_true,decide_eq_true_eq];exact hh
 ·have:(x.rc.log.any (·.writes)&&y.rc.log.any (·.writes))=true:=by
   simp only[Bool.and_eq_true];exact⟨h4,h5⟩
  rw[this] at h3;cases h3
theorem quiet_of{x:Stp}(h:x.wr=false){b i:Nat}:LE.all b∉x.q.log/\∀e∈x.q.log,¬e.wrote b i:=by
 have:=List.any_eq_false.1 h;refine⟨fun hm=>this _ hm rfl,fun e he hw=> ?_⟩;cases e with
 |wr c j n=>exact this _ he rfl
 |rd=>exact hw.elim
 |all=>exact hw.elim
def AgB(Tb:Nat->Prop):ABlk->ABlk->Prop
 | .cells t cs,y=>∃cs',y= .cells t cs'/\cs'.length=cs.length/\∀i,Tb i->cs'[i]? =cs[i]?
 |x,y=>y=x
theorem AgB.refl(Tb:Nat->Prop)(x:ABlk):AgB Tb x x:=by
 cases x<;>first|rfl|exact⟨_,rfl,rfl,fun _ _=>rfl⟩
theorem AgB.trans{Tb:Nat->Prop}{x y z:ABlk}(h:AgB Tb x y)(k:AgB Tb y z):AgB Tb x z:=by
 cases x with
 |cells t cs=>
  obtain⟨cs',rfl,h2,h3⟩:=h;obtain⟨cs2,rfl,k2,k3⟩:=k;exact⟨cs2,rfl,k2.trans h2,fun i hi=>(k3 i hi).trans (h3 i hi)⟩
 |_=>cases h;exact k
theorem AgB.symm{Tb:Nat->Prop}{x y:ABlk}(h:AgB Tb x y):AgB Tb y x:=by
 cases x with
 |cells t cs=>
  obtain⟨cs',rfl,h2,h3⟩:=h;exact⟨cs,rfl,h2.symm,fun i hi=>(h3 i hi).symm⟩
 |_=>cases h;exact AgB.refl _ _
theorem AgB.live{Tb:Nat->Prop}{x y:ABlk}(h:AgB Tb x y)(hl:live x):live y:=by
 cases x with
 |cells t cs=>obtain⟨cs',rfl,_⟩:=h;trivial
 |_=>cases h;exact hl
theorem AgB.eq{x y:ABlk}(h:AgB (fun _=>True) x y):y=x:=by
 cases x with
 |cells t cs=>
  obtain⟨cs',rfl,h2,h3⟩:=h;congr 1;exact List.ext_getElem? (fun i=>h3 i trivial)
 |_=>exact h
theorem BR.agree{ρ:Env}{Tb T:Nat->Prop}{b:Nat}{w:World}{x y:ABlk}(h:BR ρ T b w x)(ha:AgB Tb x y)(hT:∀i,Tb i->T i):BR ρ Tb b w y:=by
 cases x with
 |cells t cs=>
  obtain⟨cs',rfl,h2,h3⟩:=ha;obtain⟨r,c,fr,g1,g2,g3,g4,g5,g6⟩:=h;exact⟨r,c,fr,g1,g2,g3,by rw[h2];exact g4,g5,fun i a hi ht=>g6 i a (by rw[<-h3 i ht];exact hi) (hT i ht)⟩
 |map _ _=>cases ha;exact h
 |miter _ _ _ _=>cases ha;exact h
 |siter _ _=>cases ha;exact h
 |pmap _=>cases ha;exact h
 |defd=>cases ha;exact h
 |loop _ _ _ _ _ _ _ _=>cases ha;exact h
 |dead=>cases ha;exact h
theorem Keep.ag{log:List LE}{b:Nat}{x:ABlk}{y:Option ABlk}{Tb:Nat->Prop}(h:Keep log b x y)(hn:∀i,Tb i->∀e∈log,¬e.wrote b i):∃z,y=Option.some z/\AgB Tb x z:=by
 cases x with
 |cells t cs=>obtain⟨cs',rfl,h2,h3⟩:=h;exact⟨_,rfl,cs',rfl,h2,fun i hi=>h3 i (hn i hi)⟩
 |_=>exact⟨_,h,rfl⟩
section
variable {P:Program} {C:Callee} {Y:Yielder} (hC:CSound P C) (hY:YSound P Y) {ops:List Oper} {ss:List Stp} {A:Nat->AAct} {S:Nat->St} (X:Text P C Y ops ss A S) (hw0:WfS (S 0))
include hC hY X hw0
theorem tx_get{k:Nat}(hk:k<ops.length):∃x o,ss[k]? =some x/\ops[k]? =some o:=by
 have _all:=(⟨hC,hY,hw0⟩:_/\_/\_)
 exact⟨_,_,List.getElem?_eq_getElem (by rw[X.len];exact hk),List.getElem?_eq_getElem hk⟩
theorem tx_step{k:Nat}{x:Stp}(hx:ss[k]? =some x)(hwf:WfS (S k)):Mono x.p x.q/\x.p.heap=(S k).heap/\x.p.n=(S k).n/\x.p.log=[]/\(S (k+1)).heap=x.q.heap/\(S (k+1)).n=x.q.n/\(S (k+1)).log=x.q.log++(S k).log:=by
 have _all:=hw0;have hk:k<ops.length:=by have:=(List.getElem?_eq_some_iff.1 hx).1;rw[X.len] at this;exact this
 obtain⟨h1,h2,h3,h4⟩:=X.at_ k x _ hx (List.getElem?_eq_getElem hk);refine⟨?_,by rw[h1],by rw[h1],by rw[h1],by rw[h3],by rw[h3],by rw[h3]⟩;rcases h4 with⟨_,h4⟩|⟨_,_,h4⟩
 ·exact oneVal_mono hC hY h4 (by rw[h1];exact hwf)
 ·rw[h4];exact Mono.refl _
theorem tx_wf:∀k,k<=ops.length->WfS (S k)
 |0,_=>hw0
 |k+1,hk=>by
  have ih:=tx_wf k (by omega);obtain⟨x,o,hx,_⟩:=tx_get hC hY X hw0 (show k<ops.length by omega);obtain⟨m,h1,h2,h3,h4,h5,h6⟩:=tx_step hC hY X hw0 hx ih;have:=m.wf (by intro b hb;rw[h1];exact ih b (by omega));intro b hb;rw[h4];exact this b (by omega)
theorem tx_n:∀j i,i<=j->j<=ops.length->(S i).n<=(S j).n
 |0,i,hi,_=>by have:i=0:=by omega
               subst this;exact n_
 |j+1,i,hi,hj=>by
  by_cases h:i=j+1
  ·subst h;exact n_
  ·have ih:=tx_n j i (by omega) (by omega)
   obtain⟨x,o,hx,_⟩:=tx_get hC hY X hw0 (show j<ops.length by omega);obtain⟨m,h1,h2,h3,h4,h5,h6⟩:=tx_step hC hY X hw0 hx (tx_wf hC hY X hw0 j (by omega));have:=m.n;omega
theorem tx_log:∀j i,i<=j->j<=ops.length->∀e∈(S i).log,e∈(S j).log
 |0,i,hi,_=>by have:i=0:=by omega
               subst this;exact fun _ h=>h
 |j+1,i,hi,hj=>by
  by_cases h:i=j+1
  ·subst h;exact fun _ h=>h
  ·have ih:=tx_log j i (by omega) (by omega)
   obtain⟨x,o,hx,_⟩:=tx_get hC hY X hw0 (show j<ops.length by omega);obtain⟨m,h1,h2,h3,h4,h5,h6⟩:=tx_step hC hY X hw0 hx (tx_wf hC hY X hw0 j (by omega));intro e he;rw[h6];exact List.mem_append_right _ (ih e he)
theorem tx_mem{k:Nat}{x:Stp}(hx:ss[k]? =some x):∀e∈x.q.log,e∈(S ops.length).log:=by
 have hk:k<ops.length:=by have:=(List.getElem?_eq_some_iff.1 hx).1;rw[X.len] at this;exact this
 obtain⟨m,h1,h2,h3,h4,h5,h6⟩:=tx_step hC hY X hw0 hx (tx_wf hC hY X hw0 k (by omega));intro e he;exact tx_log hC hY X hw0 ops.length (k+1) (by omega) (n_) e (by rw[h6];exact List.mem_append_left _ he)
theorem tx_made{b:Nat}:∀(j i:Nat),i<=j->j<=ops.length->(S i).n<=b->b<(S j).n->∃k,i<=k/\k<j/\(S k).n<=b/\b<(S (k+1)).n
 |0,i,hi,_,h1,h2=>by
  have _all:=(⟨hC,hY,X,hw0⟩:_/\_/\_/\_)
  have:i=0:=by omega
  subst this;omega
 |j+1,i,hi,hj,h1,h2=>by
  by_cases h:b<(S j).n
  ·by_cases hij:i=j+1
   ·subst hij;omega
   ·obtain⟨k,g1,g2,g3⟩:=tx_made j i (by omega) (by omega) h1 h
    exact⟨k,g1,by omega,g3⟩
  ·by_cases hij:i=j+1
   ·subst hij;omega
   ·exact⟨j,by omega,by omega,by omega,h2⟩
theorem tx_one{b k j:Nat}(hk:k<ops.length)(hj:j<ops.length)(h1:(S k).n<=b)(h2:b<(S (k+1)).n)(h3:(S j).n<=b)(h4:b<(S (j+1)).n):k=j:=by
 rcases Nat.lt_trichotomy k j with h|h|h
 ·have:=tx_n hC hY X hw0 j (k+1) (by omega) (by omega);omega
 ·exact h
 ·have:=tx_n hC hY X hw0 k (j+1) (by omega) (by omega);omega
theorem tx_live{b:Nat}:∀(j i:Nat),i<=j->j<=ops.length->b<(S i).n->∀y,(S j).heap.get b=some y->live y->∃z,(S i).heap.get b=some z/\live z
 |0,i,hi,_,hb,y,hy,hl=>by
  have:i=0:=by omega
  subst this;exact⟨y,hy,hl⟩
 |j+1,i,hi,hj,hb,y,hy,hl=>by
  by_cases h:i=j+1
  ·subst h;exact⟨y,hy,hl⟩
  ·obtain⟨x,o,hx,_⟩:=tx_get hC hY X hw0 (show j<ops.length by omega)
   have hwf:=tx_wf hC hY X hw0 j (by omega);obtain⟨m,h1,h2,h3,h4,h5,h6⟩:=tx_step hC hY X hw0 hx hwf;have hn:=tx_n hC hY X hw0 j i (by omega) (by omega);obtain⟨z,hz,hzl⟩:=m.lv (by intro b hb;rw[h1];exact hwf b (by omega)) b y (by omega) (by rw[<-h4];exact hy) hl;rw[h1] at hz;exact tx_live j i (by omega) (by omega) hb z hz hzl
theorem tx_path{b:Nat}{Tb:Nat->Prop}:∀(j i:Nat),i<=j->j<=ops.length->(∀l x,i<=l->l<j->ss[l]? =some x->LE.all b∉x.q.log/\∀i,Tb i->∀e∈x.q.log,¬e.wrote b i)->∀z,(S i).heap.get b=some z->∃y,(S j).heap.get b=some y/\AgB Tb z y
 |0,i,hi,_,hq,z,hz=>by
  have:i=0:=by omega
  subst this;exact⟨z,hz,AgB.refl _ _⟩
 |j+1,i,hi,hj,hq,z,hz=>by
  by_cases h:i=j+1
  ·subst h;exact⟨z,hz,AgB.refl _ _⟩
  ·obtain⟨y,hy,hag⟩:=tx_path j i (by omega) (by omega) (fun l x h1 h2 hx=>hq l x h1 (by omega) hx) z hz
   obtain⟨x,o,hx,_⟩:=tx_get hC hY X hw0 (show j<ops.length by omega);have hwf:=tx_wf hC hY X hw0 j (by omega);obtain⟨m,h1,h2,h3,h4,h5,h6⟩:=tx_step hC hY X hw0 hx hwf;obtain⟨q1,q2⟩:=hq j x (by omega) (by omega) hx;have hk:=m.keep (by intro b hb;rw[h1];exact hwf b (by omega)) b y (by rw[h1];exact hy) q1;obtain⟨y',hy',hag'⟩:=Keep.ag hk q2;exact⟨y',by rw[h4];exact hy',hag.trans hag'⟩
end
def updL(L:Nat->Bool)(k:Nat):Nat->Bool:=fun j=>if j=k then true else L j
def TL(ops:List Oper)(S:Nat->St)(T:Nat->Nat->Prop)(L:Nat->Bool):Nat->Nat->Prop:=fun b i=>T b i\/∃j,j<ops.length/\L j=true/\(S j).n<=b/\b<(S (j+1)).n
structure DInv(ops:List Oper)(ss:List Stp)(S:Nat->St)(sz:Nat)(ρ0:Env)(T:Nat->Nat->Prop)(w0:World)(a0:Act)(L:Nat->Bool)(E:Nat)(h:Nat->Option ABlk)(ρ:Env)(a:Act)(w:World):Prop where
 size:a.tmps.size=sz
 defs:a.defers=a0.defers
 old:∀t,(∀(j:Nat) (o:Oper),ops[j]? =some o->L j=true->o.dst≠some t)->a.tmps.getD t undef=a0.tmps.getD t undef
 val:∀(j:Nat) (x:Stp) (o:Oper) t,ss[j]? =some x->L j=true->ops[j]? =some o->o.dst=some t->VR ρ x.v (a.tmps.getD t undef)
 ext:ρ0.le ρ
 new:∀b r,ρ b=some r->ρ0 b=some r\/∃j,j<ops.length/\L j=true/\(S j).n<=b/\b<(S (j+1)).n
 fr:∀b r,ρ0 b=none->ρ b=some r->r.blk<w0.heap.size->All ρ0 (S ops.length).log r.blk
 good:Good ρ (TL ops S T L) h w
 unch:Unch ρ0 (S ops.length).log w0 w
 closed:∀k j,L k=true->(W ops k).testBit j=true->L j=true
 wrs:∀(j:Nat) (x:Stp),ss[j]? =some x->x.wr=true->(L j=true<->j<E)
 top:E<=ops.length
 h1:∀b y,live y->b<(S E).n->(∃i,TL ops S T L b i)->(h b=some y<->(S E).heap.get b=some y)
 h2:∀j b y,live y->L j=true->E<=j->j<ops.length->(S j).n<=b->b<(S (j+1)).n->(h b=some y<->(S (j+1)).heap.get b=some y)
section
variable {P:Program} {C:Callee} {Y:Yielder} (hC:CSound P C) (hY:YSound P Y) {ops:List Oper} {ss:List Stp} {A:Nat->AAct} {S:Nat->St} (X:Text P C Y ops ss A S) (hw0:WfS (S 0))
 {ρ0:Env} {T:Nat->Nat->Prop} {w0:World} {a0:Act} (hp:Pre ρ0 T (S 0) (S ops.length) w0)
include hC hY X hw0 hp
theorem dv_told{L:Nat->Bool}{E:Nat}{h:Nat->Option ABlk}{ρ:Env}{a:Act}{w:World}(I:DInv ops ss S (A 0).sz ρ0 T w0 a0 L E h ρ a w){k:Nat}{x:Stp}(hx:ss[k]? =some x)(hrdy:∀j,(W ops k).testBit j=true->L j=true){e:LE}(he:e∈x.q.log){i:Nat}(hi:e.at e.blk i)(hb:e.blk<(S k).n):TL ops S T L e.blk i:=by
 have hk:k<ops.length:=by have:=(List.getElem?_eq_some_iff.1 hx).1;rw[X.len] at this;exact this
 by_cases h0:e.blk<(S 0).n
 ·exact .inl (hp.cov e (tx_mem hC hY X hw0 hx e he) h0 _ _ hi)
 ·obtain⟨j,g1,g2,g3,g4⟩:=tx_made hC hY X hw0 (b:=e.blk) k 0 (by omega) (by omega) (by omega) hb
  refine .inr ⟨j,by omega,?_,g3,g4⟩;cases hbit:(W ops k).testBit j with
  |true=>exact hrdy j hbit
  |false=>
   obtain⟨y,o,hy,_⟩:=tx_get hC hY X hw0 (show j<ops.length by omega);obtain⟨_,_,n1,_,_,n2,_⟩:=tx_step hC hY X hw0 hy (tx_wf hC hY X hw0 j (by omega));have:=(clash_inv (X.clash j k y x g2 hy hx hbit)).2.1 e he;exact absurd ⟨by omega,by omega⟩ this
theorem dv_live{k:Nat}{x:Stp}(hx:ss[k]? =some x){e:LE}(he:e∈x.q.log)(hb:e.blk<(S k).n):∃z,(S k).heap.get e.blk=some z/\live z:=by
 have _all:=hp;have hk:k<ops.length:=by have:=(List.getElem?_eq_some_iff.1 hx).1;rw[X.len] at this;exact this
 have hwf:=tx_wf hC hY X hw0 k (by omega);obtain⟨m,h1,h2,h3,_⟩:=tx_step hC hY X hw0 hx hwf;rcases m.lw (by intro b hb;rw[h1];exact hwf b (by omega)) e he with h4|h4|h4
 ·rw[h3] at h4;simp at h4
 ·omega
 ·rw[h1] at h4;exact h4
def TK(S:Nat->St)(k:Nat)(x:Stp):Nat->Nat->Prop:=fun b i=>b<(S k).n/\∃e∈x.q.log,e.at b i
omit hC hY X hw0 hp in
theorem at_blk'{e:LE}{b i:Nat}(h:e.at b i):e.blk=b:=by cases e<;>first|exact h.1|exact h
theorem dv_TL{L:Nat->Bool}{E:Nat}{h:Nat->Option ABlk}{ρ:Env}{a:Act}{w:World}(I:DInv ops ss S (A 0).sz ρ0 T w0 a0 L E h ρ a w){k:Nat}{x:Stp}(hx:ss[k]? =some x)(hrdy:∀j,(W ops k).testBit j=true->L j=true){b i:Nat}(ht:TK S k x b i):TL ops S T L b i:=by
 obtain⟨hb,e,he,hi⟩:=ht;have:=at_blk' hi;subst this;exact dv_told hC hY X hw0 hp I hx hrdy he hi hb
theorem dv_agree{L:Nat->Bool}{E:Nat}{h:Nat->Option ABlk}{ρ:Env}{a:Act}{w:World}(I:DInv ops ss S (A 0).sz ρ0 T w0 a0 L E h ρ a w){k:Nat}{x:Stp}(hx:ss[k]? =some x)(hL:L k=false)(hrdy:∀j,(W ops k).testBit j=true->L j=true){b i:Nat}(ht:TK S k x b i):
 ∃y z,(S k).heap.get b=some y/\h b=some z/\live y/\AgB (TK S k x b) z y:=by
 have hk:k<ops.length:=by have:=(List.getElem?_eq_some_iff.1 hx).1;rw[X.len] at this;exact this
 have hTL:=dv_TL hC hY X hw0 hp I hx hrdy ht;obtain⟨hb,e,he,hi⟩:=ht;have hbe:=at_blk' hi;obtain⟨y,hy,hyl⟩:=dv_live hC hY X hw0 hp hx he (by rw[hbe];exact hb);rw[hbe] at hy
 have quiet:∀l y',ss[l]? =some y'->((l<k/\L l=false)\/(k<l/\L l=true))\/y'.wr=false->LE.all b∉y'.q.log/\∀i,TK S k x b i->∀e∈y'.q.log,¬e.wrote b i:=by
  intro l y' hy' hcase;rcases hcase with hcase|hcase
  ·have hcl:(∀f∈y'.q.log,∀e∈x.q.log,f.hits e=false\/e.hits f=false):=by
    intro f hf e he;rcases hcase with⟨h1,h2⟩|⟨h1,h2⟩
    ·have hbit:(W ops k).testBit l=false:=by
      cases hh:(W ops k).testBit l with
      |true=>rw[hrdy l hh] at h2;cases h2
      |false=>rfl
     exact .inl ((clash_inv (X.clash l k y' x h1 hy' hx hbit)).1 f hf e he)
    ·have hbit:(W ops l).testBit k=false:=by
      cases hh:(W ops l).testBit k with
      |true=>rw[I.closed l k h2 hh] at hL;cases hL
      |false=>rfl
     exact .inr ((clash_inv (X.clash k l x y' h1 hx hy' hbit)).1 e he f hf)
   refine⟨fun hall=> ?_,fun i' ⟨_,e',he',hi'⟩ f hf hw=> ?_⟩
   ·obtain⟨q1,q2⟩:=hit_all hi
    rcases hcl _ hall e he with h3|h3
    ·rw[q1] at h3;cases h3
    ·rw[q2] at h3;cases h3
   ·obtain⟨q1,q2⟩:=hit_wr hi' hw
    rcases hcl _ hf e' he' with h3|h3
    ·rw[q1] at h3;cases h3
    ·rw[q2] at h3;cases h3
  ·exact⟨(quiet_of (i:=0) hcase).1,fun i' _=>(quiet_of hcase).2⟩
 by_cases hEk:E<=k
 ·
  have hq:∀i0,E<=i0->∀l y',i0<=l->l<k->ss[l]? =some y'->LE.all b∉y'.q.log/\∀i,TK S k x b i->∀e∈y'.q.log,¬e.wrote b i:=by
   intro i0 hi0 l y' h1 h2 hy';refine quiet l y' hy' ?_;cases hwr:y'.wr with
   |false=>exact .inr rfl
   |true=>
    refine .inl (.inl ⟨h2,?_⟩);cases hl:L l with
    |false=>rfl
    |true=>have:=(I.wrs l y' hy' hwr).1 hl;omega
  by_cases hbE:b<(S E).n
  ·obtain⟨z,hz,hzl⟩:=tx_live hC hY X hw0 k E hEk (by omega) hbE y hy hyl
   obtain⟨y2,hy2,hag⟩:=tx_path hC hY X hw0 k E hEk (by omega) (hq E (n_)) z hz;rw[hy] at hy2;cases hy2;exact⟨y,z,hy,(I.h1 b z hzl hbE ⟨i,hTL⟩).2 hz,hyl,hag⟩
  ·obtain⟨j,g1,g2,g3,g4⟩:=tx_made hC hY X hw0 (b:=b) k E hEk (by omega) (by omega) hb
   have hLj:L j=true:=by
    cases hbit:(W ops k).testBit j with
    |true=>exact hrdy j hbit
    |false=>
     obtain⟨y',o,hy',_⟩:=tx_get hC hY X hw0 (show j<ops.length by omega);obtain⟨_,_,n1,_,_,n2,_⟩:=tx_step hC hY X hw0 hy' (tx_wf hC hY X hw0 j (by omega));have:=(clash_inv (X.clash j k y' x g2 hy' hx hbit)).2.1 e he;exact absurd ⟨by omega,by omega⟩ this
   obtain⟨z,hz,hzl⟩:=tx_live hC hY X hw0 k (j+1) (by omega) (by omega) g4 y hy hyl;obtain⟨y2,hy2,hag⟩:=tx_path hC hY X hw0 k (j+1) (by omega) (by omega) (hq (j+1) (by omega)) z hz;rw[hy] at hy2;cases hy2;exact⟨y,z,hy,(I.h2 j b z hzl hLj g1 (by omega) g3 g4).2 hz,hyl,hag⟩
 ·have hkE:k<E:=by omega
  have hnw:x.wr=false:=by
   cases hwr:x.wr with
   |false=>rfl
   |true=>rw[(I.wrs k x hx hwr).2 hkE] at hL;cases hL
  have hbE:b<(S E).n:=Nat.lt_of_lt_of_le hb (tx_n hC hY X hw0 E k (by omega) I.top)
  obtain⟨z,hz,hag⟩:=tx_path hC hY X hw0 E k (by omega) I.top (fun l y' h1 h2 hy'=>by
   refine quiet l y' hy' ?_;by_cases hlk:l=k
   ·subst hlk
    rw[hx] at hy';cases hy';exact .inr hnw
   ·cases hwr:y'.wr with
    |false=>exact .inr rfl
    |true=>exact .inl (.inr ⟨by omega,(I.wrs l y' hy' hwr).2 h2⟩)) y hy
  exact⟨y,z,hy,(I.h1 b z (hag.live hyl) hbE ⟨i,hTL⟩).2 hz,hyl,hag.symm⟩
theorem dv_pre{L:Nat->Bool}{E:Nat}{h:Nat->Option ABlk}{ρ:Env}{a:Act}{w:World}(I:DInv ops ss S (A 0).sz ρ0 T w0 a0 L E h ρ a w){k:Nat}{x:Stp}(hx:ss[k]? =some x)(hL:L k=false)(hrdy:∀j,(W ops k).testBit j=true->L j=true):
 Pre ρ (TK S k x) x.p x.q w:=by
 have hk:k<ops.length:=by have:=(List.getElem?_eq_some_iff.1 hx).1;rw[X.len] at this;exact this
 have hwf:=tx_wf hC hY X hw0 k (by omega);obtain⟨m,p1,p2,p3,p4,p5,p6⟩:=tx_step hC hY X hw0 hx hwf;refine⟨⟨fun b y hy ⟨i,hi⟩=> ?_,fun b b' r r' y y' hy hy' hl hl' ⟨i,hi⟩ ⟨i',hi'⟩ hr hr' e=> ?_,I.good.old⟩,fun e he hb b i hi=> ?_,fun b h1 h2=> ?_,by intro b hb;rw[p1];exact hwf b (by omega),fun b i hi=>by rw[p2];exact hi.1⟩
 ·rw[p1] at hy
  obtain⟨y0,z,g1,g2,g3,g4⟩:=dv_agree hC hY X hw0 hp I hx hL hrdy hi;rw[g1] at hy;cases hy;exact(I.good.sat b z g2 ⟨i,dv_TL hC hY X hw0 hp I hx hrdy hi⟩).agree g4 (fun j hj=>dv_TL hC hY X hw0 hp I hx hrdy hj)
 ·rw[p1] at hy hy'
  obtain⟨y0,z,g1,g2,g3,g4⟩:=dv_agree hC hY X hw0 hp I hx hL hrdy hi;obtain⟨y0',z',g1',g2',g3',g4'⟩:=dv_agree hC hY X hw0 hp I hx hL hrdy hi';exact I.good.inj b b' r r' z z' g2 g2' (g4.symm.live g3) (g4'.symm.live g3') ⟨i,dv_TL hC hY X hw0 hp I hx hrdy hi⟩ ⟨i',dv_TL hC hY X hw0 hp I hx hrdy hi'⟩ hr hr' e
 ·have:=at_blk' hi
  exact⟨by omega,e,he,hi⟩
 ·cases hr:ρ b with
  |none=>rfl
  |some r=>
   exfalso;rcases I.new b r hr with h3|⟨j,h3,h4,h5,h6⟩
   ·have:=tx_n hC hY X hw0 k 0 (by omega) (by omega)
    have:=tx_n hC hY X hw0 ops.length (k+1) (by omega) (n_);rw[hp.fresh b (by omega) (by omega)] at h3;cases h3
   ·have:=tx_one hC hY X hw0 (b:=b) hk h3 (by omega) (by omega) h5 h6
    subst this;rw[hL] at h4;cases h4
theorem dv_step{L:Nat->Bool}{E:Nat}{h:Nat->Option ABlk}{ρ ρ':Env}{a:Act}{w w':World}(I:DInv ops ss S (A 0).sz ρ0 T w0 a0 L E h ρ a w){k:Nat}{x:Stp}{o:Oper}(hx:ss[k]? =some x)(ho:ops[k]? =some o)(hL:L k=false)(hrdy:∀j,(W ops k).testBit j=true->L j=true)(hdst:∀d,o.dst=some d->d<(A 0).sz/\∀(j:Nat) (q:Oper),ops[j]? =some q->q.dst=some d->j=k)(hpost:Post ρ (TK S k x) x.p w ρ' x.q w'){v':Value}(hv:VR ρ' x.v v'):
 ∃E' h',DInv ops ss S (A 0).sz ρ0 T w0 a0 (updL L k) E' h' ρ' (a.put o.dst v') w':=by
 have hk:k<ops.length:=by have:=(List.getElem?_eq_some_iff.1 hx).1;rw[X.len] at this;exact this
 have hwf:=tx_wf hC hY X hw0 k (by omega);obtain⟨m,p1,p2,p3,p4,p5,p6⟩:=tx_step hC hY X hw0 hx hwf;have hpre:=dv_pre hC hY X hw0 hp I hx hL hrdy;have hLk:∀j,updL L k j=true<->j=k\/L j=true:=fun j=>by unfold updL;by_cases h:j=k<;>simp[h]
 have hTL:∀b i,TL ops S T (updL L k) b i<->Tn (TL ops S T L) x.p.n x.q.n b i:=by
  intro b i;constructor
  ·rintro(h1|⟨j,h1,h2,h3,h4⟩)
   ·exact .inl (.inl h1)
   ·rcases(hLk j).1 h2 with rfl|h2
    ·exact .inr ⟨by omega,by omega⟩
    ·exact .inl (.inr ⟨j,h1,h2,h3,h4⟩)
  ·rintro((h1|⟨j,h1,h2,h3,h4⟩)|h1)
   ·exact .inl h1
   ·exact .inr ⟨j,h1,(hLk j).2 (.inr h2),h3,h4⟩
   ·exact .inr ⟨k,hk,(hLk k).2 (.inl rfl),by omega,by omega⟩
 have hTLe:TL ops S T (updL L k)=Tn (TL ops S T L) x.p.n x.q.n:=by funext b i;exact propext (hTL b i)
 have hnewno:∀b i,x.p.n<=b->b<x.q.n->¬TL ops S T L b i:=by
  rintro b i h1 h2 (h3|⟨j,h3,h4,h5,h6⟩)
  ·have:=hp.tn b i h3
   have:=tx_n hC hY X hw0 k 0 (by omega) (by omega);omega
  ·have:=tx_one hC hY X hw0 (b:=b) hk h3 (by omega) (by omega) h5 h6
   subst this;rw[hL] at h4;cases h4
 have hcov:∀e∈x.q.log,e.blk<x.p.n->∀i,e.at e.blk i->TK S k x e.blk i:=fun e he hb i hi=>⟨by omega,e,he,hi⟩
 have hlive:∀b,(∃i,TK S k x b i)->∃z,h b=some z/\live z:=fun b ⟨i,hi⟩=>by
  obtain⟨y0,z,g1,g2,g3,g4⟩:=dv_agree hC hY X hw0 hp I hx hL hrdy hi;exact⟨z,g2,g4.symm.live g3⟩
 have hput:(a.put o.dst v').tmps.size=(A 0).sz/\(a.put o.dst v').defers=a0.defers:=by
  cases hd:o.dst with
  |none=>exact⟨I.size,I.defs⟩
  |some d=>exact⟨by simp[Act.put,I.size],I.defs⟩
 have hgetne:∀t,o.dst≠some t->(a.put o.dst v').tmps.getD t undef=a.tmps.getD t undef:=fun t ht=>by
  cases hd:o.dst with
  |none=>rfl
  |some d=>
   have:d≠t:=fun e=>ht (by rw[hd,e]);simp[Act.put,Array.getD_eq_getD_getElem?,this]
 have hgeteq:∀t,o.dst=some t->(a.put o.dst v').tmps.getD t undef=v':=fun t ht=>by
  rw[ht];have:=(hdst t ht).1;simp[Act.put,Array.getD_eq_getD_getElem?,I.size,this]
 have hold:∀t,(∀(j:Nat) (q:Oper),ops[j]? =some q->updL L k j=true->q.dst≠some t)->(a.put o.dst v').tmps.getD t undef=a0.tmps.getD t undef:=fun t ht=>by
  rw[hgetne t (ht k o ho ((hLk k).2 (.inl rfl)))];exact I.old t (fun j q hq hj=>ht j q hq ((hLk j).2 (.inr hj)))
 have hval:∀(j:Nat) (y:Stp) (q:Oper) t,ss[j]? =some y->updL L k j=true->ops[j]? =some q->q.dst=some t->VR ρ' y.v ((a.put o.dst v').tmps.getD t undef):=fun j y q t hy hj hq ht=>by
  rcases(hLk j).1 hj with rfl|hj'
  ·rw[hx] at hy
   rw[ho] at hq;cases hy;cases hq;rw[hgeteq t ht];exact hv
  ·rw[hgetne t (fun e=>by
    have:=(hdst t e).2 j q hq ht;rw[this,hL] at hj';cases hj')]
   exact(I.val j y q t hy hj' hq ht).mono hpost.ext
 have hclosed:∀i j,updL L k i=true->(W ops i).testBit j=true->updL L k j=true:=fun i j hi hj=>by
  rcases(hLk i).1 hi with rfl|hi
  ·exact(hLk j).2 (.inr (hrdy j hj))
  ·exact(hLk j).2 (.inr (I.closed i j hi hj))
 have hnew:∀b r,ρ' b=some r->ρ0 b=some r\/∃j,j<ops.length/\updL L k j=true/\(S j).n<=b/\b<(S (j+1)).n:=fun b r hr=>by
  rcases hpost.new b r hr with h3|h3
  ·rcases I.new b r h3 with h4|⟨j,h4,h5,h6⟩
   ·exact .inl h4
   ·exact .inr ⟨j,h4,(hLk j).2 (.inr h5),h6⟩
  ·exact .inr ⟨k,hk,(hLk k).2 (.inl rfl),by omega,by omega⟩
 have hlogs:∀e∈x.q.log,e∈(S ops.length).log:=tx_mem hC hY X hw0 hx;have hfrI:∀b r,ρ0 b=none->ρ b=some r->r.blk<w0.heap.size->All ρ0 (S ops.length).log r.blk:=I.fr
 have hfr:∀b r,ρ0 b=none->ρ' b=some r->r.blk<w0.heap.size->All ρ0 (S ops.length).log r.blk:=fun b r h1 h2 h3=>by
  cases h4:ρ b with
  |some r1=>
   have:r1=r:=Option.some.inj ((hpost.ext _ _ h4).symm.trans h2);subst this;exact hfrI b r1 h1 h4 h3
  |none=>exact((hpost.fr b r h4 h2 (Nat.lt_of_lt_of_le h3 I.unch.size)).mono (Env.le_refl ρ) hlogs).back h3 (fun e he=>he) I.ext hfrI
 have hunch:Unch ρ0 (S ops.length).log w0 w':=by
  have hu:Unch ρ (S ops.length).log w w':=⟨hpost.unch.os,hpost.unch.tape,hpost.unch.output,hpost.unch.size,fun B hB hn=>hpost.unch.block B hB (fun o hw=>hn o (hw.mono (Env.le_refl ρ) hlogs)),fun B c t fr hc hna=>by
   obtain⟨c',g1,g2,g3⟩:=hpost.unch.cells B c t fr hc (fun ha=>hna (ha.mono (Env.le_refl ρ) hlogs));exact⟨c',g1,g2,fun o ho=>g3 o (fun hw=>ho (hw.mono (Env.le_refl ρ) hlogs))⟩⟩
  exact I.unch.trans hu (fun e he=>he) I.ext hfrI
 cases hwr:x.wr with
 |false=>
  refine⟨E,fun b=>if x.p.n<=b/\b<x.q.n then x.q.heap.get b else h b,hput.1,hput.2,hold,hval,Env.le_trans I.ext hpost.ext,hnew,hfr,?_,hunch,hclosed,fun j y hy hyw=> ?_,I.top,fun b y hyl hb hT=> ?_,fun j b y hyl hj hEj hjl h3 h4=> ?_⟩
  ·rw[hTLe]
   refine good_frame I.good hpre hpost m p3 (fun b i hi=>dv_TL hC hY X hw0 hp I hx hrdy hi) hlive hnewno hcov (fun b h1 h2=>if_pos ⟨h1,h2⟩) (fun b y hT hn hy hl=> ?_) (fun b y' ht hy hl=> ?_)
   ·obtain⟨i,hi⟩:=hT
    by_cases hm:x.p.n<=b/\b<x.q.n
    ·exact absurd hi (hnewno b i hm.1 hm.2)
    ·simpa[hm] using hy
   ·obtain⟨i,hi⟩:=ht
    have hbn:b<x.p.n:=by rw[p2];exact hi.1
    obtain⟨y0,z,g1,g2,g3,g4⟩:=dv_agree hC hY X hw0 hp I hx hL hrdy hi
    have hyz:y'=z:=by
     have hm:¬(x.p.n<=b/\b<x.q.n):=by omega
     have hy2:h b=some y':=by simpa[hm] using hy
     rw[g2] at hy2;exact(Option.some.inj hy2).symm
    subst hyz;have hkp:=m.keep hpre.wf b y0 (by rw[p1];exact g1) (quiet_of (b:=b) (i:=0) hwr).1;obtain⟨y1,hy1,hag1⟩:=Keep.ag (Tb:=fun _=>True) hkp (fun i _=>(quiet_of hwr).2);have:=hag1.eq;subst this;refine⟨y1,hy1,g3,?_⟩;have g5:=g4.symm;cases y1 with
    |cells t cs'=>
     obtain⟨cs,rfl,k2,k3⟩:=g5;exact⟨cs,rfl,k2,k3,.inr ⟨cs,g2,fun _ _=>rfl⟩⟩
    |_=>exact g5
  ·rw[hLk]
   constructor
   ·rintro(rfl|h1)
    ·rw[hx] at hy;cases hy;rw[hwr] at hyw;cases hyw
    ·exact(I.wrs j y hy hyw).1 h1
   ·exact fun h1=> .inr ((I.wrs j y hy hyw).2 h1)
  ·show(if x.p.n<=b/\b<x.q.n then x.q.heap.get b else h b)=some y<->_
   by_cases hm:x.p.n<=b/\b<x.q.n
   ·rw[if_pos hm,<-p4]
    have hkE:k<E:=by
     rcases Nat.lt_or_ge k E with h5|h5
     ·exact h5
     ·have:=tx_n hC hY X hw0 k E h5 (by omega);omega
    have hq:∀l y',k+1<=l->l<E->ss[l]? =some y'->LE.all b∉y'.q.log/\∀i,True->∀e∈y'.q.log,¬e.wrote b i:=by
     intro l y' g1 g2 hy';cases hwl:y'.wr with
     |false=>exact⟨(quiet_of (i:=0) hwl).1,fun i _=>(quiet_of hwl).2⟩
     |true=>
      have hLl:=(I.wrs l y' hy' hwl).2 g2
      have hbit:(W ops l).testBit k=false:=by
       cases hh:(W ops l).testBit k with
       |true=>rw[I.closed l k hLl hh] at hL;cases hL
       |false=>rfl
      have hno:=(clash_inv (X.clash k l x y' (by omega) hx hy' hbit)).2.1;refine⟨fun he=>hno _ he ⟨hm.1,hm.2⟩,fun i _ e he hw=> ?_⟩;cases e with
      |rd=>exact hw.elim
      |all=>exact hw.elim
      |wr c j n=>obtain⟨rfl,_⟩:=hw;exact hno _ he ⟨hm.1,hm.2⟩
    constructor
    ·intro hg
     obtain⟨y2,hy2,hag⟩:=tx_path hC hY X hw0 E (k+1) (by omega) I.top hq y hg;rw[hy2,hag.eq]
    ·intro hg
     obtain⟨z,hz,hzl⟩:=tx_live hC hY X hw0 E (k+1) (by omega) I.top (by omega) y hg hyl;obtain⟨y2,hy2,hag⟩:=tx_path hC hY X hw0 E (k+1) (by omega) I.top hq z hz;rw[hg] at hy2;rw[hz,Option.some.inj hy2,hag.eq]
   ·rw[if_neg hm]
    obtain⟨i,hi⟩:=hT;refine I.h1 b y hyl hb ⟨i,?_⟩;rcases(hTL b i).1 hi with h5|h5
    ·exact h5
    ·exact absurd h5 hm
  ·show(if x.p.n<=b/\b<x.q.n then x.q.heap.get b else h b)=some y<->_
   rcases(hLk j).1 hj with rfl|hj
   ·rw[if_pos ⟨by omega,by omega⟩,p4]
   ·by_cases hm:x.p.n<=b/\b<x.q.n
    ·have:=tx_one hC hY X hw0 (b:=b) hk hjl (by omega) (by omega) h3 h4
     subst this;rw[hL] at hj;cases hj
    ·rw[if_neg hm]
     exact I.h2 j b y hyl hj hEj hjl h3 h4
 |true=>
  have hwrk:∀(j:Nat) (y:Stp),ss[j]? =some y->y.wr=true->j≠k->(L j=true<->j<k):=by
   intro j y hy hyw hjk;constructor
   ·intro hj
    rcases Nat.lt_or_ge j k with h5|h5
    ·exact h5
    ·have hbit:(W ops j).testBit k=false:=by
      cases hh:(W ops j).testBit k with
      |true=>rw[I.closed j k hj hh] at hL;cases hL
      |false=>rfl
     exact absurd ⟨hwr,hyw⟩ (clash_inv (X.clash k j x y (by omega) hx hy hbit)).2.2
   ·intro hj
    cases hbit:(W ops k).testBit j with
    |true=>exact hrdy j hbit
    |false=>exact absurd ⟨hyw,hwr⟩ (clash_inv (X.clash j k y x hj hy hx hbit)).2.2
  have hEk:E<=k:=by
   rcases Nat.lt_or_ge k E with h5|h5
   ·rw[(I.wrs k x hx hwr).2 h5] at hL;cases hL
   ·exact h5
  have hq:∀b i0,E<=i0->∀l y',i0<=l->l<k->ss[l]? =some y'->LE.all b∉y'.q.log/\∀i,True->∀e∈y'.q.log,¬e.wrote b i:=by
   intro b i0 hi0 l y' g1 g2 hy';cases hwl:y'.wr with
   |false=>exact⟨(quiet_of (i:=0) hwl).1,fun i _=>(quiet_of hwl).2⟩
   |true=>
    have h6:=(hwrk l y' hy' hwl (by omega)).2 g2;have:=(I.wrs l y' hy' hwl).1 h6;omega
  have hknown:∀b y,live y->b<(S k).n->(∃i,TL ops S T L b i)->(h b=some y<->(S k).heap.get b=some y):=by
   intro b y hyl hb hT
   have both:∀i0,E<=i0->i0<=k->b<(S i0).n->((S i0).heap.get b=some y<->(S k).heap.get b=some y):=by
    intro i0 h6 h7 h8;constructor
    ·intro hg
     obtain⟨y2,hy2,hag⟩:=tx_path hC hY X hw0 k i0 h7 (by omega) (hq b i0 h6) y hg;rw[hy2,hag.eq]
    ·intro hg
     obtain⟨z,hz,hzl⟩:=tx_live hC hY X hw0 k i0 h7 (by omega) h8 y hg hyl;obtain⟨y2,hy2,hag⟩:=tx_path hC hY X hw0 k i0 h7 (by omega) (hq b i0 h6) z hz;rw[hg] at hy2;rw[hz,Option.some.inj hy2,hag.eq]
   by_cases hbE:b<(S E).n
   ·exact(I.h1 b y hyl hbE hT).trans (both E (n_) hEk hbE)
   ·obtain⟨i,hi⟩:=hT
    rcases hi with hi|⟨j,g1,g2,g3,g4⟩
    ·have:=hp.tn b i hi
     have:=tx_n hC hY X hw0 E 0 (by omega) I.top;omega
    ·have hEj:E<=j:=by
      rcases Nat.lt_or_ge j E with h6|h6
      ·have:=tx_n hC hY X hw0 E (j+1) (by omega) I.top;omega
      ·exact h6
     have hjk:j+1<=k:=by
      rcases Nat.lt_or_ge j k with h6|h6
      ·exact h6
      ·have:=tx_n hC hY X hw0 j k h6 (by omega);omega
     exact(I.h2 j b y hyl g2 hEj g1 g3 g4).trans (both (j+1) (by omega) hjk g4)
  refine⟨k+1,fun b=>if b<x.q.n then x.q.heap.get b else h b,hput.1,hput.2,hold,hval,Env.le_trans I.ext hpost.ext,hnew,hfr,?_,hunch,hclosed,fun j y hy hyw=> ?_,hk,fun b y hyl hb hT=> ?_,fun j b y hyl hj hEj hjl h3 h4=> ?_⟩
  ·rw[hTLe]
   refine good_frame I.good hpre hpost m p3 (fun b i hi=>dv_TL hC hY X hw0 hp I hx hrdy hi) hlive hnewno hcov (fun b h1 h2=>if_pos h2) (fun b y hT hn hy hl=> ?_) (fun b y' ht hy hl=> ?_)
   ·by_cases hbq:b<x.q.n
    ·have hy2:x.q.heap.get b=some y:=by simpa[hbq] using hy
     by_cases hbp:b<x.p.n
     ·obtain⟨z,hz,hzl⟩:=m.lv hpre.wf b y hbp hy2 hl
      have hnall:LE.all b∉x.q.log:=fun hall=>hn 0 ⟨by omega,_,hall,rfl⟩
      obtain⟨y1,hy1,hag1⟩:=Keep.ag (Tb:=fun _=>True) (m.keep hpre.wf b z hz hnall) (fun i _ e he hw=>hn i ⟨by omega,e,he,by
       cases e with
       |rd=>exact hw.elim
       |all=>exact hw.elim
       |wr c j n=>exact hw⟩)
      rw[hy2] at hy1;have:=hag1.eq;rw[<-Option.some.inj hy1] at this;subst this;rw[p1] at hz;exact(hknown b y hl (by omega) hT).2 hz
     ·obtain⟨i,hi⟩:=hT
      exact absurd hi (hnewno b i (by omega) hbq)
    ·simpa[hbq] using hy
   ·obtain⟨i,hi⟩:=ht
    have hbn:b<x.p.n:=by rw[p2];exact hi.1
    have hbq:b<x.q.n:=by have:=m.n;omega
    have hy2:x.q.heap.get b=some y':=by simpa[hbq] using hy
    refine⟨y',hy2,hl,?_⟩;obtain⟨z,hz,hzl⟩:=m.lv hpre.wf b y' hbn hy2 hl;have hzh:h b=some z:=(hknown b z hzl (by omega) ⟨i,dv_TL hC hY X hw0 hp I hx hrdy hi⟩).2 (by rw[<-p1];exact hz);cases y' with
    |cells t cs'=>
     refine⟨cs',rfl,rfl,fun _ _=>rfl,?_⟩;by_cases hall:LE.all b∈x.q.log
     ·exact .inl (fun i=>⟨by omega,_,hall,rfl⟩)
     ·have hkp:=m.keep hpre.wf b z hz hall
      cases z with
      |cells t0 cs0=>
       obtain⟨cs2,k1,k2,k3⟩:=hkp;rw[hy2] at k1;cases k1
       exact .inr ⟨cs0,hzh,fun j hj=>k3 j (fun e he hw=>hj ⟨by omega,e,he,by
        cases e with
        |rd=>exact hw.elim
        |all=>exact hw.elim
        |wr c j n=>exact hw⟩)⟩
      |map a b=>rw[hkp] at hy2;cases hy2
      |miter a b c d=>rw[hkp] at hy2;cases hy2
      |siter a b=>rw[hkp] at hy2;cases hy2
      |pmap a=>rw[hkp] at hy2;cases hy2
      |defd=>rw[hkp] at hy2;cases hy2
      |loop a1 a2 a3 a4 a5 a6 a7 a8=>rw[hkp] at hy2;cases hy2
      |dead=>exact hzl.elim
    |_=>rfl
  ·rw[hLk]
   by_cases hjk:j=k
   ·subst hjk;exact⟨fun _=>Nat.lt_succ_self _,fun _=> .inl rfl⟩
   ·have:=hwrk j y hy hyw hjk
    constructor
    ·rintro(h1|h1)
     ·exact absurd h1 hjk
     ·have:=this.1 h1;omega
    ·exact fun h1=> .inr (this.2 (by omega))
  ·show(if b<x.q.n then x.q.heap.get b else h b)=some y<->_
   rw[if_pos (by omega),p4]
  ·show(if b<x.q.n then x.q.heap.get b else h b)=some y<->_
   have:=tx_n hC hY X hw0 j (k+1) hEj (by omega);rw[if_neg (by omega)];rcases(hLk j).1 hj with h5|hj'
   ·omega
   ·exact I.h2 j b y hyl hj' (by omega) hjl h3 h4
end
end Go.Proofs.YtnocnbklhikmnaaGreatDoor.Rk
