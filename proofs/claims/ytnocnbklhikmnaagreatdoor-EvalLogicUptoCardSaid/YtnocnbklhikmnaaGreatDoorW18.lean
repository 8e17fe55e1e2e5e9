/- Part 18 of the proof. -/
import Derived.Test.YtnocnbklhikmnaaGreatDoorW15
import Derived.Test.YtnocnbklhikmnaaGreatDoorW17
set_option linter.unusedVariables false
set_option maxRecDepth 1000000
set_option maxHeartbeats 16000000
namespace Go.Proofs.YtnocnbklhikmnaaGreatDoor.Rk
open Go
section
variable {P:Program} {C:Callee} {Y:Yielder} (hC:CSound P C) (hY:YSound P Y) {ops:List Oper} {ss:List Stp} {A:Nat->AAct} {S:Nat->St} (X:Text P C Y ops ss A S)
include X
theorem A_sz:∀k,k<=ops.length->(A k).sz=(A 0).sz/\(A k).defs=(A 0).defs
 |0,_=>⟨rfl,rfl⟩
 |k+1,hk=>by
  have hx:ss[k]? =some (ss[k]'(by rw[X.len];omega)):=List.getElem?_eq_getElem _;obtain⟨_,h2,_⟩:=X.at_ k _ _ hx (List.getElem?_eq_getElem (show k<ops.length by omega));obtain⟨ih1,ih2⟩:=A_sz k (by omega);rw[h2];unfold AAct.put AAct.putT;split
  ·split<;>exact⟨ih1,ih2⟩
  ·exact⟨ih1,ih2⟩
theorem put_get_ne(a:AAct)(d:Option Tmp)(v:AV)(t:Nat)(h:d≠some t):(a.put d v).get t=a.get t:=by
 have _all:=X;unfold AAct.put AAct.putT;split
 ·rename_i d'
  split
  ·unfold AAct.get
   rw[Tr.get_set,if_neg (fun e=>h (by rw[e]))]
  ·rfl
 ·rfl
theorem put_get_eq(a:AAct)(v:AV)(t:Nat)(h:t<a.sz):(a.put (some t) v).get t=v:=by
 have _all:=X;unfold AAct.put AAct.putT;simp only[if_pos h];unfold AAct.get;rw[Tr.get_set,if_pos rfl];rfl
theorem A_old{t:Nat}:∀k,k<=ops.length->(∀(j:Nat) (o:Oper),j<k->ops[j]? =some o->o.dst≠some t)->(A k).get t=(A 0).get t
 |0,_,_=>rfl
 |k+1,hk,h=>by
  have hx:ss[k]? =some (ss[k]'(by rw[X.len];omega)):=List.getElem?_eq_getElem _;have ho:ops[k]? =some (ops[k]'(by omega)):=List.getElem?_eq_getElem _;obtain⟨_,h2,_⟩:=X.at_ k _ _ hx ho;rw[h2,put_get_ne X _ _ _ _ (h k _ (by omega) ho)];exact A_old k (by omega) (fun j o hj=>h j o (by omega))
theorem A_val{t j:Nat}{x:Stp}{o:Oper}(hx:ss[j]? =some x)(ho:ops[j]? =some o)(ht:o.dst=some t)(hsz:t<(A 0).sz)(hone:∀(i:Nat) (q:Oper),ops[i]? =some q->q.dst=some t->i=j):∀k,j<k->k<=ops.length->(A k).get t=x.v
 |0,hj,_=>by omega
 |k+1,hj,hk=>by
  have hy:ss[k]? =some (ss[k]'(by rw[X.len];omega)):=List.getElem?_eq_getElem _;have hq:ops[k]? =some (ops[k]'(by omega)):=List.getElem?_eq_getElem _;obtain⟨_,h2,_⟩:=X.at_ k _ _ hy hq;by_cases hjk:j=k
  ·subst hjk
   rw[hx] at hy;rw[ho] at hq;rw[h2,<-Option.some.inj hy,<-Option.some.inj hq,ht,put_get_eq X _ _ _ (by rw[(A_sz X j (by omega)).1];exact hsz)]
  ·rw[h2,put_get_ne X _ _ _ _ (fun e=>hjk (hone k _ hq e).symm)]
   exact A_val hx ho ht hsz hone k (by omega) (by omega)
end
structure Wf(ops:List Oper)(sz:Nat):Prop where
 lt:∀(k:Nat) (o:Oper),ops[k]? =some o->∀j,(W ops k).testBit j=true->j<k
 looks:∀(k j:Nat) (o q:Oper) t,ops[k]? =some o->ops[j]? =some q->t∈opTmps ops o->q.dst=some t->(W ops k).testBit j=true\/(W ops j).testBit k=true
 dst:∀(k:Nat) (o:Oper) d,ops[k]? =some o->o.dst=some d->d<sz/\∀(j:Nat) (q:Oper),ops[j]? =some q->q.dst=some d->j=k
theorem zip_mem{α:Type}{l:List α}{k:Nat}{x:α}(h:l[k]? =some x):(x,k)∈l.zipIdx:=List.mem_of_getElem? (i:=k) (by rw[List.getElem?_zipIdx,h];simp)
theorem wf_of{ops:List Oper}{sz:Nat}(h:wfOps ops sz (waitsA ops)=true):Wf ops sz:=by
 unfold wfOps at h;have key:∀(k:Nat) (o:Oper),ops[k]? =some o->_:=fun k o ho=>List.all_eq_true.1 h (o,k) (zip_mem ho);simp only[Bool.and_eq_true,decide_eq_true_eq] at key;refine⟨fun k o ho j hj=> ?_,fun k j o q t ho hq ht hd=> ?_,fun k o d ho hd=> ?_⟩
 ·have h1:=(key k o ho).1.1
  rcases Nat.lt_or_ge j k with h2|h2
  ·exact h2
  ·have h3:(waitsA ops).getD k 0<2^j:=Nat.lt_of_lt_of_le h1 (Nat.pow_le_pow_right (by omega) h2)
   have:=Nat.testBit_lt_two_pow h3;unfold W at hj;rw[hj] at this;cases this
 ·have h1:=List.all_eq_true.1 ((key k o ho).1.2) t ht
  have h2:=List.all_eq_true.1 h1 (q,j) (zip_mem hq);simp only[Bool.or_eq_true,bne_iff_ne,ne_eq] at h2;rcases h2 with(h2|h2)|h2
  ·exact absurd hd h2
  ·exact .inl h2
  ·exact .inr h2
 ·have h1:=(key k o ho).2
  rw[hd] at h1;simp only[Bool.and_eq_true,decide_eq_true_eq] at h1;refine⟨h1.1,fun j q hq hqd=> ?_⟩;have h2:=List.all_eq_true.1 h1.2 (q,j) (zip_mem hq);simp only[Bool.or_eq_true,beq_iff_eq,bne_iff_ne,ne_eq] at h2;rcases h2 with h2|h2
  ·exact h2
  ·exact absurd hqd h2
section
variable {P:Program} {C:Callee} {Y:Yielder} (hC:CSound P C) (hY:YSound P Y) {ops:List Oper} {opsA:Array Oper} (hop:opsA.toList=ops) {ss:List Stp} {A:Nat->AAct} {S:Nat->St} (X:Text P C Y ops ss A S) (hw0:WfS (S 0))
 {ρ0:Env} {T:Nat->Nat->Prop} {w0:World} {a0:Act} (hp:Pre ρ0 T (S 0) (S ops.length) w0) (hwf:Wf ops (A 0).sz) (ha:ActR ρ0 (A 0) a0)
include hC hY hop X hw0 hp hwf ha
theorem size_eq:opsA.size=ops.length:=by
 have _all:=(⟨hC,hY,X,hw0,hp,hwf,ha⟩:_/\_/\_/\_/\_/\_/\_)
 rw[<-hop,Array.length_toList]
theorem at_eq(k:Nat):opsA[k]? =ops[k]? :=by
 have _all:=(⟨hC,hY,X,hw0,hp,hwf,ha⟩:_/\_/\_/\_/\_/\_/\_)
 rw[<-hop,Array.getElem?_toList]
theorem dv_init:DInv ops ss S (A 0).sz ρ0 T w0 a0 (fun _=>false) 0 (S 0).heap.get ρ0 a0 w0:=by
 have _all:=(⟨hC,hY,hop,X,hw0,hwf⟩:_/\_/\_/\_/\_/\_)
 have hTL:TL ops S T (fun _=>false)=T:=by
  funext b i;exact propext ⟨fun h=>h.elim id (fun⟨j,_,h,_⟩=>by cases h),.inl⟩
 refine⟨ha.size,rfl,fun _ _=>rfl,fun j x o t _ h=>(by cases h),Env.le_refl _,fun b r h=> .inl h,fun(b:Nat) (r:RB) h1 h2 _=>(nomatch (h1.symm.trans h2)),(by rw[hTL];exact hp.good),Unch.refl _ _ _ _ rfl rfl rfl rfl,fun k j h=>(by cases h),fun j x _ _=>⟨fun h=>(by cases h),fun h=>(by omega)⟩,Nat.zero_le _,fun b y _ _ _=>Iff.rfl,fun j b y _ h=>(by cases h)⟩
theorem dv_end{L:Nat->Bool}{E:Nat}{h:Nat->Option ABlk}{ρ:Env}{a:Act}{w:World}(I:DInv ops ss S (A 0).sz ρ0 T w0 a0 L E h ρ a w)(hall:∀j,j<ops.length->L j=true):Post ρ0 T (S 0) w0 ρ (S ops.length) w/\ActR ρ (A ops.length) a:=by
 have _all:=hop
 have hTL:∀b i,TL ops S T L b i<->Tn T (S 0).n (S ops.length).n b i:=by
  intro b i;constructor
  ·rintro(h1|⟨j,h1,h2,h3,h4⟩)
   ·exact .inl h1
   ·have:=tx_n hC hY X hw0 j 0 (by omega) (by omega)
    have:=tx_n hC hY X hw0 ops.length (j+1) (by omega) (n_);exact .inr ⟨by omega,by omega⟩
  ·rintro(h1|h1)
   ·exact .inl h1
   ·obtain⟨j,g1,g2,g3,g4⟩:=tx_made hC hY X hw0 (b:=b) ops.length 0 (by omega) (n_) h1.1 h1.2
    exact .inr ⟨j,g2,hall j g2,g3,g4⟩
 have hTLe:TL ops S T L=Tn T (S 0).n (S ops.length).n:=by funext b i;exact propext (hTL b i)
 have hq:∀b i0,E<=i0->∀l y',i0<=l->l<ops.length->ss[l]? =some y'->LE.all b∉y'.q.log/\∀i,True->∀e∈y'.q.log,¬e.wrote b i:=by
  intro b i0 hi0 l y' g1 g2 hy';cases hwl:y'.wr with
  |false=>exact⟨(quiet_of (i:=0) hwl).1,fun i _=>(quiet_of hwl).2⟩
  |true=>have:=(I.wrs l y' hy' hwl).1 (hall l g2);omega
 have both:∀b y i0,live y->E<=i0->i0<=ops.length->b<(S i0).n->((S i0).heap.get b=some y<->(S ops.length).heap.get b=some y):=by
  intro b y i0 hyl h6 h7 h8;constructor
  ·intro hg
   obtain⟨y2,hy2,hag⟩:=tx_path hC hY X hw0 ops.length i0 h7 (n_) (hq b i0 h6) y hg;rw[hy2,hag.eq]
  ·intro hg
   obtain⟨z,hz,hzl⟩:=tx_live hC hY X hw0 ops.length i0 h7 (n_) h8 y hg hyl;obtain⟨y2,hy2,hag⟩:=tx_path hC hY X hw0 ops.length i0 h7 (n_) (hq b i0 h6) z hz;rw[hg] at hy2;rw[hz,Option.some.inj hy2,hag.eq]
 have hknown:∀b y,live y->(∃i,TL ops S T L b i)->(S ops.length).heap.get b=some y->h b=some y:=by
  intro b y hyl hT hg;by_cases hbE:b<(S E).n
  ·exact(I.h1 b y hyl hbE hT).2 ((both b y E hyl (n_) I.top hbE).2 hg)
  ·obtain⟨i,hi⟩:=hT
   rcases hi with hi|⟨j,g1,g2,g3,g4⟩
   ·have:=hp.tn b i hi
    have:=tx_n hC hY X hw0 E 0 (by omega) I.top;omega
   ·have hEj:E<=j:=by
     rcases Nat.lt_or_ge j E with h6|h6
     ·have:=tx_n hC hY X hw0 E (j+1) (by omega) I.top;omega
     ·exact h6
    exact(I.h2 j b y hyl g2 hEj g1 g3 g4).2 ((both b y (j+1) hyl (by omega) (by omega) g4).2 hg)
 refine⟨⟨I.ext,fun b r hr=> ?_,I.fr,?_,I.unch⟩,⟨by rw[I.size,(A_sz X _ (n_)).1],fun t=> ?_,by rw[I.defs,(A_sz X _ (n_)).2];exact ha.defs.mono I.ext⟩⟩
 ·rcases I.new b r hr with h1|⟨j,h1,h2,h3,h4⟩
  ·exact .inl h1
  ·have:=tx_n hC hY X hw0 j 0 (by omega) (by omega)
   have:=tx_n hC hY X hw0 ops.length (j+1) (by omega) (n_);exact .inr ⟨by omega,by omega⟩
 ·rw[<-hTLe]
  refine⟨fun b y hy hT=> ?_,fun b b' r r' y y' hy hy' hl hl' hT hT' hr hr' e=>I.good.inj b b' r r' y y' (hknown b y hl hT hy) (hknown b' y' hl' hT' hy') hl hl' hT hT' hr hr' e,I.good.old⟩;by_cases hl:live y
  ·exact I.good.sat b y (hknown b y hl hT hy) hT
  ·cases y<;>first|exact trivial|exact absurd trivial hl
 ·by_cases hex:∃(j:Nat) (o:Oper),ops[j]? =some o/\o.dst=some t
  ·obtain⟨j,o,ho,hd⟩:=hex
   have hj:=(List.getElem?_eq_some_iff.1 ho).1;have hx:ss[j]? =some (ss[j]'(by rw[X.len];exact hj)):=List.getElem?_eq_getElem _;obtain⟨g1,g2⟩:=hwf.dst j o t ho hd;rw[A_val X hx ho hd g1 g2 ops.length hj (n_)];exact I.val j _ o t hx (hall j hj) ho hd
  ·have hno:∀(j:Nat) (o:Oper),ops[j]? =some o->o.dst≠some t:=fun j o ho hd=>hex ⟨j,o,ho,hd⟩
   rw[A_old X ops.length (n_) (fun j o _ ho=>hno j o ho),I.old t (fun j o ho _=>hno j o ho)];exact(ha.get t).mono I.ext
theorem dv_looks{L:Nat->Bool}{E:Nat}{h:Nat->Option ABlk}{ρ:Env}{a:Act}{w:World}(I:DInv ops ss S (A 0).sz ρ0 T w0 a0 L E h ρ a w){k:Nat}{o:Oper}(ho:ops[k]? =some o)(hL:L k=false)(hrdy:∀j,(W ops k).testBit j=true->L j=true){t:Nat}(ht:t∈opTmps ops o):VR ρ ((A k).get t) (a.tmps.getD t undef):=by
 have _all:=(⟨hC,hY,hop,hw0,hp⟩:_/\_/\_/\_/\_)
 have hk:=(List.getElem?_eq_some_iff.1 ho).1;by_cases hex:∃(j:Nat) (q:Oper),ops[j]? =some q/\q.dst=some t
 ·obtain⟨j,q,hq,hd⟩:=hex
  have hj:=(List.getElem?_eq_some_iff.1 hq).1;obtain⟨g1,g2⟩:=hwf.dst j q t hq hd;rcases hwf.looks k j o q t ho hq ht hd with hbit|hbit
  ·have hjk:=hwf.lt k o ho j hbit
   have hx:ss[j]? =some (ss[j]'(by rw[X.len];exact hj)):=List.getElem?_eq_getElem _;rw[A_val X hx hq hd g1 g2 k hjk (by omega)];exact I.val j _ q t hx (hrdy j hbit) hq hd
  ·have hkj:=hwf.lt j q hq k hbit
   rw[A_old X k (by omega) (fun i q' hi hq' hd'=>by have:=g2 i q' hq' hd';omega),I.old t (fun i q' hq' hi hd'=>by
    have:=g2 i q' hq' hd';subst this;rw[I.closed i k hi hbit] at hL;cases hL)]
   exact(ha.get t).mono I.ext
 ·have hno:∀(j:Nat) (o:Oper),ops[j]? =some o->o.dst≠some t:=fun j o ho hd=>hex ⟨j,o,ho,hd⟩
  rw[A_old X k (by omega) (fun j o _ ho=>hno j o ho),I.old t (fun j o ho _=>hno j o ho)];exact(ha.get t).mono I.ext
theorem waits_ready{k:Nat}{o:Oper}(ho:ops[k]? =some o){L:Nat->Bool}(hcl:∀k j,L k=true->(W ops k).testBit j=true->L j=true)(hall:∀e∈o.after,Region.binds .any e=true->L e.on=true):∀j,(W ops k).testBit j=true->L j=true:=by
 have _all:=(⟨hC,hY,hop,X,hw0,hp,hwf,ha⟩:_/\_/\_/\_/\_/\_/\_/\_)
 intro j hj;obtain⟨e,he,hb,h1⟩:=(W_spec ho).1 hj;rcases h1 with h1|h1
 ·rw[<-h1];exact hall e he hb
 ·refine hcl e.on j (hall e he hb) ?_
  unfold W;rw[List.getD_eq_getElem?_getD] at h1⊢;by_cases hlt:e.on<k
  ·rwa [List.getElem?_take_of_lt hlt] at h1
  ·rw[List.getElem?_eq_none (by simp;omega)] at h1
   simp at h1
theorem dv_any{r:Option Nat}{n:Nat}{Q:Exit->Act->World->Prop}(hQ:∀ρ a w,Post ρ0 T (S 0) w0 ρ (S ops.length) w->ActR ρ (A ops.length) a->Q .normal a w):
 ∀(u:Nat) (listed:Array Bool) (E:Nat) (h:Nat->Option ABlk) (ρ:Env) (a:Act) (w:World),listed.size=ops.length->(List.range ops.length).countP (fun j=> !listed.getD j true)=u->DInv ops ss S (A 0).sz ρ0 T w0 a0 (fun j=>listed.getD j false) E h ρ a w->wpAnyIn (FW r) n P .any opsA Q u listed a w
 |0,listed,E,h,ρ,a,w,hsz,hu,I=>by
  have hall:∀j,j<ops.length->listed.getD j true=true:=fun j hj=>by
   have:=List.countP_eq_zero.1 hu j (List.mem_range.2 hj);simpa using this
  have hall2:∀j,j<ops.length->listed.getD j false=true:=fun j hj=>by
   have h1:=hall j hj;have h2:j<listed.size:=by omega
   simpa[h2] using h1
  obtain⟨g1,g2⟩:=dv_end hC hY hop X hw0 hp hwf ha I hall2;refine⟨?_,hQ ρ a w g1 g2⟩;cases hr:Region.ready .any opsA listed with
  |nil=>rfl
  |cons i rest=>
   obtain⟨hun,o,ho,_⟩:=mem_ready.1 (show i∈Region.ready .any opsA listed by rw[hr];exact List.mem_cons_self ..)
   have hi:i<ops.length:=by
    have:=(Array.getElem?_eq_some_iff.1 ho).1;rw[size_eq hC hY hop X hw0 hp hwf ha] at this;exact this
   rw[hall i hi] at hun;cases hun
 |u+1,listed,E,h,ρ,a,w,hsz,hu,I=>by
  have hex:∃j,j<ops.length/\listed.getD j true=false:=by
   have:0<(List.range ops.length).countP fun j=> !listed.getD j true:=by omega
   obtain⟨j,hj,hp⟩:=List.countP_pos_iff.1 this;exact⟨j,List.mem_range.1 hj,by simpa using hp⟩
  have hready:∀j,j<ops.length->listed.getD j true=false->∃i,i∈Region.ready .any opsA listed:=by
   intro j
   induction j using Nat.strongRecOn with
   |_ j ih=>
    intro hj hun;have ho:ops[j]? =some ops[j]:=List.getElem?_eq_getElem hj;by_cases hall:∀e∈ops[j].after,Region.binds .any e=true->listed.getD e.on false=true
    ·exact⟨j,mem_ready.2 ⟨hun,ops[j],by rw[at_eq hC hY hop X hw0 hp hwf ha];exact ho,hall⟩⟩
    ·simp only[Classical.not_forall] at hall
     obtain⟨e,he,hb,hno⟩:=hall;have hbit:(W ops j).testBit e.on=true:=(W_spec ho).2 ⟨e,he,hb,.inl rfl⟩;have hlt:=hwf.lt j _ ho _ hbit;refine ih e.on hlt (by omega) ?_;have hs:e.on<listed.size:=by omega
     simpa[hs] using hno
  refine⟨fun h0=> ?_,fun i hi=> ?_⟩
  ·obtain⟨j,hj,hun⟩:=hex
   obtain⟨i,hi⟩:=hready j hj hun;rw[h0] at hi;cases hi
  ·obtain⟨hun,o,ho,hall⟩:=mem_ready.1 hi
   rw[at_eq hC hY hop X hw0 hp hwf ha] at ho;have hil:=(List.getElem?_eq_some_iff.1 ho).1;have hx:ss[i]? =some (ss[i]'(by rw[X.len];exact hil)):=List.getElem?_eq_getElem _;generalize (ss[i]'(by rw[X.len];exact hil))=x at hx
   have hLf:(fun j=>listed.getD j false) i=false:=by
    show listed.getD i false=false;have h2:i<listed.size:=by omega
    simpa[h2] using hun
   have hrdy:=waits_ready hC hY hop X hw0 hp hwf ha ho (L:=fun j=>listed.getD j false) I.closed hall;have hpre:=dv_pre hC hY X hw0 hp I hx hLf hrdy;obtain⟨q1,q2,q3,q4⟩:=X.at_ i x o hx ho
   have follow:∀ρ' w' v',Post ρ (TK S i x) x.p w ρ' x.q w'->VR ρ' x.v v'->wpAnyIn (FW r) n P .any opsA Q u (listed.setIfInBounds i true) (a.put o.dst v') w':=by
    intro ρ' w' v' hpost hv;obtain⟨E',h',I'⟩:=dv_step hC hY X hw0 hp I hx ho hLf hrdy (fun d hd=>hwf.dst i o d ho hd) hpost hv
    have hL:updL (fun j=>listed.getD j false) i=fun j=>(listed.setIfInBounds i true).getD j false:=by
     funext j;unfold updL;by_cases hji:j=i
     ·subst hji
      have h2:j<listed.size:=by omega
      simp[h2]
     ·rw[if_neg hji]
      simp[Array.getD_eq_getD_getElem?,Ne.symm hji]
    rw[hL] at I';refine dv_any hQ u _ E' h' ρ' _ w' (by simpa using hsz) ?_ I'
    have hcnt:∀m,i<m->(List.range m).countP (fun j=> !(listed.setIfInBounds i true).getD j true)+1=(List.range m).countP (fun j=> !listed.getD j true):=by
     intro m
     induction m with
     |zero=>intro h;omega
     |succ m ih=>
      intro him;rw[List.range_succ,List.countP_append,List.countP_append,List.countP_singleton,List.countP_singleton];by_cases hm:m=i
      ·subst hm
       have hsame:(List.range m).countP (fun j=> !(listed.setIfInBounds m true).getD j true)=(List.range m).countP (fun j=> !listed.getD j true):=by
        refine List.countP_congr (fun j hj=> ?_);have:j≠m:=by have:=List.mem_range.1 hj;omega
        simp[Array.getD_eq_getD_getElem?,Ne.symm this]
       have h2:m<listed.size:=by omega
       rw[hsame,hun];simp[h2]
      ·have:=ih (by omega)
       have e:(listed.setIfInBounds i true).getD m true=listed.getD m true:=by
        simp[Array.getD_eq_getD_getElem?,Ne.symm hm]
       rw[e];omega
    have:=hcnt ops.length hil;omega
   unfold wpOpIn;rw[at_eq hC hY hop X hw0 hp hwf ha,ho]
   have hguard:∀b,wantedA ops o (A i)=some b->Region.wanted o (yielded opsA a.tmps)=b:=fun b hb=>wanted_ok hb hop (fun j c d hg hd=>dv_looks hC hY hop X hw0 hp hwf ha I ho hLf hrdy (by
    unfold opTmps;rw[hg];refine List.mem_append_right _ ?_;show d∈(ops[j]?.bind (fun x=>x.dst)).toList;rw[hd];exact List.mem_singleton.2 rfl))
   rcases q4 with⟨q5,q6⟩|⟨q5,q6,q7⟩
   ·simp only[hguard true q5,if_true]
    refine oneVal_ok hC hY q6 hpre (fun y hy=> ?_) (fun ρ' w' hpost v' hv=>follow ρ' w' v' hpost hv);cases y with
    |tmp t=>
     refine dv_looks hC hY hop X hw0 hp hwf ha I ho hLf hrdy ?_;unfold opTmps;refine List.mem_append_left _ (List.mem_filterMap.2 ⟨.tmp t,Array.mem_toList_iff.2 hy,rfl⟩)
    |const v=>exact ofV_ok 3 v
    |global g=>exact .top _
    |func f=>exact .func f [] [] #[] #[] .nil .nil
   ·simp only[hguard false q5,Bool.false_eq_true,if_false]
    refine⟨fun _ _=>trivial,?_⟩;refine follow ρ w undef ?_ (by rw[q6];exact undef_ok);rw[q7] at hpre⊢;exact Post.refl hpre
end
section
variable {P:Program} {C:Callee} {Y:Yielder} {ρ:Env} {T:Nat->Nat->Prop} {s s':St} {w:World} {aa:AAct} {a:Act}
theorem regOps_mono{R:Bool}{ops:List Oper}{draw:Bool}{x:OR}(hC:CSound P C)(hY:YSound P Y)(hwf:WfS s)(h:regOps P C Y R ops draw aa s=x)(hs:x.st=some s'):Mono s s':=by
 unfold regOps at h;split at h
 ·split at h
  ·cases x with
   |no=>cases hs
   |pan aa1 v s1=>
    exfalso
    have:∀(l:List Oper) ws rs aa s,drawOps P C Y ops l ws rs aa s≠.pan aa1 v s1:=by
     intro l
     induction l with
     |nil=>intro ws rs aa s h;unfold drawOps at h;cases h
     |cons o l ih=>
      intro ws rs aa s h;cases ws with
      |nil=>unfold drawOps at h;cases h
      |cons w ws=>
       unfold drawOps at h;split at h
       ·split at h
        ·split at h
         ·cases h
         ·exact ih _ _ _ _ h
        ·cases h
       ·exact ih _ _ _ _ h
       ·cases h
    exact this _ _ _ _ _ h
   |ok aa1 s1=>
    cases hs;obtain⟨ss,A,S,X,h1,h2,h3,h4⟩:=draw_Text h;subst h2 h4
    have key:∀k,k<=ops.length->Mono (S 0) (S k):=by
     intro k
     induction k with
     |zero=>exact fun _=>Mono.refl _
     |succ k ih=>
      intro hk;have m1:=ih (by omega);obtain⟨x,o,hx,_⟩:=tx_get hC hY X hwf (show k<ops.length by omega);have hwk:=tx_wf hC hY X hwf k (by omega);obtain⟨m,p1,p2,p3,p4,p5,p6⟩:=tx_step hC hY X hwf hx hwk;have hwp:WfS x.p:=by intro b hb;rw[p1];exact hwk b (by omega)
      refine m1.trans ⟨by have:=m.n;omega,fun e he=>by rw[p6];exact List.mem_append_right _ he,fun _=>tx_wf hC hY X hwf (k+1) hk,fun _ b y hy hn=> ?_,fun _ b y hb hy hl=> ?_,fun _ e he=> ?_,fun _ hb e he=> ?_⟩
      ·rw[p4]
       have:=m.keep hwp b y (by rw[p1];exact hy) (fun hm=>hn (by rw[p6];exact List.mem_append_left _ hm));exact Keep.mono (fun e he=>by rw[p6];exact List.mem_append_left _ he) this
      ·rw[p4] at hy
       obtain⟨z,hz,hzl⟩:=m.lv hwp b y (by omega) hy hl;exact⟨z,by rw[<-p1];exact hz,hzl⟩
      ·rw[p6] at he
       rcases List.mem_append.1 he with he|he
       ·rcases m.lw hwp e he with h5|h5|⟨z,h5,h6⟩
        ·rw[p3] at h5;cases h5
        ·exact .inr (.inl (by omega))
        ·exact .inr (.inr ⟨z,by rw[<-p1];exact h5,h6⟩)
       ·exact .inl he
      ·rw[p6] at he
       rcases List.mem_append.1 he with he|he
       ·have:=m.lb hwp (by rw[p3];simp) e he
        omega
       ·have:=hb e he
        have:=m.n;omega
    exact key _ (n_)
  ·subst h;cases hs
 ·exact runOps_mono hC hY _ hwf h hs
theorem regOps_ok{R:Bool}{id:Nat}{opsA:Array Oper}{draw:Bool}{x:OR}(hm:P.follows .mixedOrders=true)(hC:CSound P C)(hY:YSound P Y){r:Option Nat}(hr:R=false->r=none){n:Nat}{Q:Exit->Act->World->Prop}(h:regOps P C Y R opsA.toList draw aa s=x)(hs:x.st=some s')(hp:Pre ρ T s s' w)(ha:ActR ρ aa a)(hk:ORQ Q ρ T s w x):(Code.region id opsA draw).wpIn (FW r) n P Q a w:=by
 unfold regOps at h;split at h
 ·rename_i hd
  subst hd;split at h
  ·rename_i hwfo
   cases x with
   |no=>cases hs
   |pan aa1 v s1=>
    exfalso
    have:∀(l:List Oper) ws rs aa s,drawOps P C Y opsA.toList l ws rs aa s≠.pan aa1 v s1:=by
     intro l
     induction l with
     |nil=>intro ws rs aa s h;unfold drawOps at h;cases h
     |cons o l ih=>
      intro ws rs aa s h;cases ws with
      |nil=>unfold drawOps at h;cases h
      |cons w ws=>
       unfold drawOps at h;split at h
       ·split at h
        ·split at h
         ·cases h
         ·exact ih _ _ _ _ h
        ·cases h
       ·exact ih _ _ _ _ h
       ·cases h
    exact this _ _ _ _ _ h
   |ok aa1 s1=>
    cases hs;obtain⟨ss,A,S,X,h1,h2,h3,h4⟩:=draw_Text h;subst h1 h2 h3 h4;have hp':Pre ρ T (S 0) (S opsA.toList.length) {w with drawn:=w.drawn+1}:=⟨good_same hp.good rfl ⟨rfl,rfl,rfl,rfl⟩,hp.cov,hp.fresh,hp.wf,hp.tn⟩
    refine wpIn_region_any hm ?_;have:=dv_any hC hY rfl X hp.wf hp' (wf_of hwfo) ha (r:=r) (n:=n) (Q:=Q) (fun ρ' a' w' hpost ha'=>hk ρ' a' w' ⟨hpost.ext,hpost.new,hpost.fr,hpost.good,⟨hpost.unch.os,hpost.unch.tape,hpost.unch.output,hpost.unch.size,hpost.unch.block,hpost.unch.cells⟩⟩ ha') opsA.size (Array.replicate opsA.size false) 0 (S 0).heap.get ρ a {w with drawn:=w.drawn+1} (by simp) ?_ ?_
    ·exact this
    ·have:∀j∈List.range opsA.toList.length,(!(Array.replicate opsA.size false).getD j true)=true:=fun j hj=>by
      have hjl:=List.mem_range.1 hj;rw[Array.length_toList] at hjl;simp[Array.getD_eq_getD_getElem?,hjl]
     rw[List.countP_eq_length.2 this];simp
    ·have e:(fun j=>(Array.replicate opsA.size false).getD j false)=fun _=>false:=by
      funext j;simp[Array.getD_eq_getD_getElem?,Array.getElem?_replicate];split<;>rfl
     rw[e];exact dv_init hC hY rfl X hp.wf hp' (wf_of hwfo) ha
  ·subst h;cases hs
 ·rename_i hd
  have:draw=false:=by simpa using hd
  subst this;exact wpIn_region_list (runOps_ok rfl hC hY hr _ h hs hp ha hk)
end
section
variable {P:Program} {C:Callee}
theorem ex_norm{ρ:Env}{e:AExit}{E:Exit}(h:ExR ρ e E)(he:e≠.normal):E≠.normal:=by
 intro hE;subst hE;cases e<;>first|exact he rfl|exact h
theorem ex_goto{ρ:Env}{e:AExit}{l:Nat}(h:ExR ρ e (.goto l)):e= .goto l:=by
 cases e<;>first|exact h.elim|(have:=h;simp only[ExR] at this;rw[this])
theorem ex_exit{ρ:Env}{e:AExit}{l:Nat}(h:ExR ρ e (.exit l)):e= .exit l:=by
 cases e<;>first|exact h.elim|(have:=h;simp only[ExR] at this;rw[this])
theorem ev_ok(hm:P.follows .mixedOrders=true)(hC:CSound P C):∀f,(∀R,EvS P (ev P C f R) R)/\(∀R,JuS P (jump P C f R) R f)/\∀R,LoS P (ev P C f R) R f
 |0=>⟨fun R c aa s e aa' s' h=>by simp[ev] at h,fun R c l aa s e aa' s' h=>by simp[jump] at h,fun R c aa s e aa' s' h=>by simp[ev] at h⟩
 |f+1=>by
  obtain⟨ihE,ihJ,ihL⟩:=ev_ok hm hC f
  have hL:∀R,LoS P (ev P C (f+1) R) R (f+1):=by
   intro R c aa s e aa' s' h hwf;unfold ev at h;simp only at h;split at h
   ·rename_i aa1 s1 h1
    obtain⟨m1,k1⟩:=ihE R _ _ _ _ _ _ h1 hwf;obtain⟨m2,k2⟩:=ihL R _ _ _ _ _ _ h (m1.wf hwf);refine⟨m1.trans m2,fun ρ T w a r n hr hp ha=> ?_⟩;rw[roundsIn_succ];refine wpIn_mono (k1 ρ T w a r n hr (hp.first m2) ha) ?_;rintro E1 a1 w1 ⟨ρ1,g1,g2,g3⟩;cases E1<;>try exact g3.elim
    exact rounds_mono (fun E2 a2 w2 h2=>h2.after m1 m2 g1) _ _ _ (k2 ρ1 _ w1 a1 r n hr (hp.next m1 m2 g1) g2)
   ·rename_i hne
    obtain⟨m1,k1⟩:=ihE R _ _ _ _ _ _ h hwf;refine⟨m1,fun ρ T w a r n hr hp ha=> ?_⟩;rw[roundsIn_succ];refine wpIn_mono (k1 ρ T w a r n hr hp ha) ?_;rintro E1 a1 w1 ⟨ρ1,g1,g2,g3⟩;have hen:e≠.normal:=fun he=>hne aa' s' (by rw[h,he]);cases E1<;>first|exact absurd rfl (ex_norm g3 hen)|exact⟨ρ1,g1,g2,g3⟩
  refine⟨fun R c aa s e aa' s' h hwf=> ?_,fun R c l aa s e aa' s' h hwf=> ?_,hL⟩
  ·unfold ev at h
   split at h
   ·
    cases h;exact⟨Mono.refl _,fun ρ T w a r n hr hp ha=>wpIn_skip ⟨ρ,Post.refl hp,ha,trivial⟩⟩
   ·cases h
    exact⟨Mono.refl _,fun ρ T w a r n hr hp ha=>wpIn_label ⟨ρ,Post.refl hp,ha,trivial⟩⟩
   ·
    rename_i id ops draw;have hY:YSound P (fun _ _ _=>none):=fun _ _ _ _ _ h _=>by cases h
    cases hx:regOps P C (fun _ _ _=>none) R ops.toList draw aa s with
    |no=>rw[hx] at h;cases h
    |ok aa1 s1=>
     rw[hx] at h;cases h;exact⟨regOps_mono hC hY hwf hx rfl,fun ρ T w a r n hr hp ha=>regOps_ok hm hC hY hr hx rfl hp ha (fun ρ' a' w' h1 h2=>⟨ρ',h1,h2,trivial⟩)⟩
    |pan aa1 v s1=>
     rw[hx] at h;cases h;exact⟨regOps_mono hC hY hwf hx rfl,fun ρ T w a r n hr hp ha=>regOps_ok hm hC hY hr hx rfl hp ha (fun ρ' a' w' v' h1 h2 h3=>⟨ρ',h1,h2,v',rfl,h3⟩)⟩
   ·
    rename_i x y;split at h
    ·rename_i aa1 s1 h1
     obtain⟨m1,k1⟩:=ihE R _ _ _ _ _ _ h1 hwf;obtain⟨m2,k2⟩:=ihE R _ _ _ _ _ _ h (m1.wf hwf);refine⟨m1.trans m2,fun ρ T w a r n hr hp ha=>wpIn_seq (wpIn_mono (k1 ρ T w a r n hr (hp.first m2) ha) ?_)⟩;rintro E1 a1 w1 ⟨ρ1,g1,g2,g3⟩;cases E1<;>try exact g3.elim
     exact wpIn_mono (k2 ρ1 _ w1 a1 r n hr (hp.next m1 m2 g1) g2) (fun E2 a2 w2 h2=>h2.after m1 m2 g1)
    ·rename_i hne
     obtain⟨m1,k1⟩:=ihE R _ _ _ _ _ _ h hwf;refine⟨m1,fun ρ T w a r n hr hp ha=>wpIn_seq (wpIn_mono (k1 ρ T w a r n hr hp ha) ?_)⟩;rintro E1 a1 w1 ⟨ρ1,g1,g2,g3⟩;have hen:e≠.normal:=fun he=>hne aa' s' (by rw[h,he]);cases E1<;>first|exact absurd rfl (ex_norm g3 hen)|exact⟨ρ1,g1,g2,g3⟩
   ·
    rename_i c x y;split at h
    ·rename_i hc
     obtain⟨m1,k1⟩:=ihE R _ _ _ _ _ _ h hwf;refine⟨m1,fun ρ T w a r n hr hp ha=> ?_⟩;have:=ha.eval c;rw[hc] at this;generalize hcc:a.eval c=c' at this;cases this;exact wpIn_cond_true hcc (k1 ρ T w a r n hr hp ha)
    ·rename_i hc
     obtain⟨m1,k1⟩:=ihE R _ _ _ _ _ _ h hwf;refine⟨m1,fun ρ T w a r n hr hp ha=> ?_⟩;have:=ha.eval c;rw[hc] at this;generalize hcc:a.eval c=c' at this;cases this;exact wpIn_cond_false hcc (k1 ρ T w a r n hr hp ha)
    ·cases h
   ·
    rename_i id c;split at h
    ·rename_i j aa1 s1 h1
     cases h;obtain⟨m1,k1⟩:=ihE R _ _ _ _ _ _ h1 hwf;refine⟨m1,fun ρ T w a r n hr hp ha=>wpIn_block (wpIn_mono (k1 ρ T w a r n hr hp ha) ?_)⟩;rintro E1 a1 w1 ⟨ρ1,g1,g2,g3⟩;cases E1<;>try exact g3.elim
     have hj:j=_:=g3;subst hj;by_cases hid:j=id
     ·simp only[Exit.inBlock,hid,if_true]
      exact⟨ρ1,g1,g2,trivial⟩
     ·simp only[Exit.inBlock,hid,if_false]
      exact⟨ρ1,g1,g2,rfl⟩
    ·rename_i hne
     obtain⟨m1,k1⟩:=ihE R _ _ _ _ _ _ h hwf;refine⟨m1,fun ρ T w a r n hr hp ha=>wpIn_block (wpIn_mono (k1 ρ T w a r n hr hp ha) ?_)⟩;rintro E1 a1 w1 ⟨ρ1,g1,g2,g3⟩;cases E1<;>try exact⟨ρ1,g1,g2,g3⟩
     exact absurd (by rw[h,ex_exit g3]) (hne _ aa' s')
   ·
    rename_i c;obtain⟨m1,k1⟩:=hL R c aa s e aa' s' (by unfold ev;exact h) hwf;exact⟨m1,fun ρ T w a r n hr hp ha=>wpIn_loop_rounds _ (k1 ρ T w a r n hr hp ha)⟩
   ·cases h;exact⟨Mono.refl _,fun ρ T w a r n hr hp ha=>wpIn_exit ⟨ρ,Post.refl hp,ha,rfl⟩⟩
   ·cases h;exact⟨Mono.refl _,fun ρ T w a r n hr hp ha=>wpIn_goto ⟨ρ,Post.refl hp,ha,rfl⟩⟩
   ·cases h;exact⟨Mono.refl _,fun ρ T w a r n hr hp ha=>wpIn_ret ⟨ρ,Post.refl hp,ha,trivial⟩⟩
   ·
    rename_i c;split at h
    ·rename_i l aa1 s1 h1
     obtain⟨m1,k1⟩:=ihE R _ _ _ _ _ _ h1 hwf;obtain⟨m2,k2⟩:=ihJ R _ _ _ _ _ _ _ h (m1.wf hwf);refine⟨m1.trans m2,fun ρ T w a r n hr hp ha=>wpIn_scope_jumps (wpIn_mono (k1 ρ T w a r n hr (hp.first m2) ha) ?_)⟩;rintro E1 a1 w1 ⟨ρ1,g1,g2,g3⟩;cases E1<;>try exact g3.elim
     have hl:l=_:=g3;subst hl;exact⟨_,jumpsIn_mono (fun E2 a2 w2 h2=>h2.after m1 m2 g1) _ _ _ _ (k2 ρ1 _ w1 a1 r n hr (hp.next m1 m2 g1) g2)⟩
    ·rename_i hne
     obtain⟨m1,k1⟩:=ihE R _ _ _ _ _ _ h hwf;refine⟨m1,fun ρ T w a r n hr hp ha=>wpIn_scope_jumps (wpIn_mono (k1 ρ T w a r n hr hp ha) ?_)⟩;rintro E1 a1 w1 ⟨ρ1,g1,g2,g3⟩;cases E1<;>try exact⟨ρ1,g1,g2,g3⟩
     exact absurd (by rw[h,ex_goto g3]) (hne _ aa' s')
   ·cases h
  ·unfold jump at h
   split at h
   ·rename_i rest hf
    split at h
    ·rename_i l' aa1 s1 h1
     obtain⟨m1,k1⟩:=ihE R _ _ _ _ _ _ h1 hwf;obtain⟨m2,k2⟩:=ihJ R _ _ _ _ _ _ _ h (m1.wf hwf);refine⟨m1.trans m2,fun ρ T w a r n hr hp ha=>⟨rest,hf,wpIn_mono (k1 ρ T w a r n hr (hp.first m2) ha) ?_⟩⟩;rintro E1 a1 w1 ⟨ρ1,g1,g2,g3⟩;cases E1<;>try exact g3.elim
     have hl:l'=_:=g3;subst hl;exact jumpsIn_mono (fun E2 a2 w2 h2=>h2.after m1 m2 g1) _ _ _ _ (k2 ρ1 _ w1 a1 r n hr (hp.next m1 m2 g1) g2)
    ·rename_i hne
     obtain⟨m1,k1⟩:=ihE R _ _ _ _ _ _ h hwf;refine⟨m1,fun ρ T w a r n hr hp ha=>⟨rest,hf,wpIn_mono (k1 ρ T w a r n hr hp ha) ?_⟩⟩;rintro E1 a1 w1 ⟨ρ1,g1,g2,g3⟩;cases E1<;>try exact⟨ρ1,g1,g2,g3⟩
     exact absurd (by rw[h,ex_goto g3]) (hne _ aa' s')
   ·cases h
end
section
variable {P:Program} {ρ:Env} {T:Nat->Nat->Prop} {s s':St} {w w':World} {aa:AAct} {a:Act}
theorem loadRes_ok{t:TypeId}{x v:AV}{x':Value}(h:opLoad P t x s=some (v,s'))(hp:Pre ρ T s s' w)(hx:VR ρ x x'):∃v',(asAddr x'>>=fun ad=>loadVar t ad).run P w= .ok v' w/\Post ρ T s w ρ s' w/\VR ρ v v':=by
 unfold opLoad at h;split at h
 ·rename_i b off n ha hs
  split at h
  ·rename_i cs s1 hr
   simp only[Option.some.injEq,Prod.mk.injEq] at h;obtain⟨rfl,rfl⟩:=h;cases hx with
   |ptr b off r hb=>
    obtain⟨vs,h1,h2,h3⟩:=rd_ok hr hp hb;obtain⟨e,_⟩:=rd_mono hr;subst h1;refine⟨.agg vs.toArray,?_,Post.same hp.good (by rw[e];rfl) (by rw[e];rfl) (Still.refl w),.agg _ _ (by simpa using h2)⟩;simp[asAddr,loadVar,run_agg ha,run_szOf hs,run_cells h3]
  ·cases h
 ·rename_i b off ha
  split at h
  ·rename_i v1 s1 hr
   simp only[Option.some.injEq,Prod.mk.injEq] at h;obtain⟨rfl,rfl⟩:=h;cases hx with
   |ptr b off r hb=>
    obtain⟨vs,h1,h2,h3⟩:=rd_ok hr hp hb;obtain⟨e,_⟩:=rd_mono hr
    match vs,h1 with
    |[u],_=>
     cases h2 with
     |cons _ _ _ _ hv _=>
      have hc:=h3 0 u rfl;rw[RB.at_add,Nat.add_zero] at hc;refine⟨u,?_,Post.same hp.good (by rw[e];rfl) (by rw[e];rfl) (Still.refl w),hv⟩;simp[asAddr,loadVar,run_agg ha,hc]
  ·cases h
 ·cases h
theorem resA_mono:∀{l:List ResultVar} {vs:List AV} {s s':St},resA P aa l s=some (vs,s')->Mono s s'
 |[],vs,s,s',h=>by cases h;exact Mono.refl _
 | .tmp t::l,vs,s,s',h=>by
   unfold resA at h;split at h
   ·rename_i h1;cases h;exact resA_mono h1
   ·cases h
 | .cell x t::l,vs,s,s',h=>by
   unfold resA at h;split at h
   ·rename_i h1
    split at h
    ·rename_i h2;cases h;exact(opLoad_mono h1).trans (resA_mono h2)
    ·cases h
   ·cases h
def resVar(tmps:Array Value):ResultVar->Sem Value
 | .tmp t=>pure (tmps.getD t undef)
 | .cell a t=>do loadVar t (<-asAddr (tmps.getD a undef))
theorem resA_ok:∀{l:List ResultVar} {vs:List AV} {T:Nat->Nat->Prop} {s s':St},resA P aa l s=some (vs,s')->Pre ρ T s s' w->ActR ρ aa a->∃vs',(l.mapM (resVar a.tmps)).run P w= .ok vs' w/\VRL ρ vs vs'/\Post ρ T s w ρ s' w
 |[],vs,T,s,s',h,hp,ha=>by cases h;exact⟨[],rfl,.nil,Post.refl hp⟩
 | .tmp t::l,vs,T,s,s',h,hp,ha=>by
   unfold resA at h;split at h
   ·rename_i h1
    cases h;obtain⟨vs',g1,g2,g3⟩:=resA_ok h1 hp ha;refine⟨_::vs',?_,.cons _ _ _ _ (ha.get t) g2,g3⟩;simp only[List.mapM_cons,resVar,Sem.run_bind,Sem.run_pure,Result.andThen_ok,g1]
   ·cases h
 | .cell x t::l,vs,T,s,s',h,hp,ha=>by
   unfold resA at h;split at h
   ·rename_i h1
    split at h
    ·rename_i h2
     cases h;have m1:=opLoad_mono h1;have m2:=resA_mono h2;obtain⟨v',g1,g2,g3⟩:=loadRes_ok h1 (hp.first m2) (ha.get x);obtain⟨vs',f1,f2,f3⟩:=resA_ok h2 (hp.next m1 m2 g2) ha;refine⟨v'::vs',?_,.cons _ _ _ _ g3 f2,Post.trans m1 m2 g2 f3⟩;rw[List.mapM_cons,Sem.run_bind];show((asAddr (a.tmps.getD x undef)>>=fun ad=>loadVar t ad).run P w).andThen _=_
     rw[g1];simp only[Sem.run_bind,Sem.run_pure,Result.andThen_ok,f1]
    ·cases h
   ·cases h
theorem results_ok{fn:Func}{vs:List AV}(h:resA P aa fn.results.toList s=some (vs,s'))(hp:Pre ρ T s s' w)(ha:ActR ρ aa a):∃v,(results fn a.tmps).run P w= .ok v w/\VR ρ (tupA vs) v/\Post ρ T s w ρ s' w:=by
 obtain⟨vs',g1,g2,g3⟩:=resA_ok h hp ha
 have e:results fn a.tmps=(do let vs<-fn.results.mapM (resVar a.tmps);pure (if h:vs.size=1 then vs[0] else .tuple vs)):=by
  unfold results;congr 1
 refine⟨if h:vs'.toArray.size=1 then vs'.toArray[0] else .tuple vs'.toArray,?_,?_,g3⟩
 ·rw[e,Array.mapM_eq_mapM_toList]
  simp only[Sem.run_bind,Sem.run_map,g1,Result.andThen_ok,Sem.run_pure]
 ·cases g2 with
  |nil=>exact .tuple _ _ .nil
  |cons x v l ls hx ht=>
   cases ht with
   |nil=>exact hx
   |cons y u l2 ls2 hy ht2=>
    have:¬((v::u::ls2).toArray.size=1):=by simp
    rw[dif_neg this];exact .tuple _ _ (by simpa using VRL.cons _ _ _ _ hx (.cons _ _ _ _ hy ht2))
theorem mem_keepL{n:Nat}{old l:List LE}{e:LE}:e∈keepL n old l<->e∈old\/e∈l/\e.blk<n:=by
 induction l with
 |nil=>simp[keepL]
 |cons x l ih=>
  unfold keepL;split
  ·rename_i hx
   rw[List.mem_cons,ih,List.mem_cons];constructor
   ·rintro(rfl|h|h)
    ·exact .inr ⟨.inl rfl,hx⟩
    ·exact .inl h
    ·exact .inr ⟨.inr h.1,h.2⟩
   ·rintro(h|⟨rfl|h,h2⟩)
    ·exact .inr (.inl h)
    ·exact .inl rfl
    ·exact .inr (.inr ⟨h,h2⟩)
  ·rename_i hx
   rw[ih,List.mem_cons];constructor
   ·rintro(h|h)
    ·exact .inl h
    ·exact .inr ⟨.inr h.1,h.2⟩
   ·rintro(h|⟨rfl|h,h2⟩)
    ·exact .inl h
    ·exact absurd h2 hx
    ·exact .inr ⟨h,h2⟩
def St.cut(s q:St):St:={q with log:=keepL s.n s.log q.log}
theorem Mono.cut{q:St}(m:Mono {s with log:=[]} q)(hwf:WfS s):Mono s (s.cut q):=by
 have hw0:WfS {s with log:=[]}:=hwf;have hlt:∀b x,s.heap.get b=some x->b<s.n:=fun b x h=>lt_n hwf h;refine⟨m.n,fun e he=>mem_keepL.2 (.inl he),fun _=>m.wf hw0,fun _ b x hb hn=> ?_,fun _ b x' hb h hl=>m.lv hw0 b x' hb h hl,fun _ e he=> ?_,fun _ hb e he=> ?_⟩
 ·have h1:=m.keep hw0 b x hb (fun hm=>hn (mem_keepL.2 (.inr ⟨hm,hlt b x hb⟩)))
  cases x with
  |cells t cs=>
   obtain⟨cs',g1,g2,g3⟩:=h1;refine⟨cs',g1,g2,fun i hi=>g3 i (fun e he hw=> ?_)⟩;have hbb:e.blk=b:=by cases e<;>first|exact hw.1|exact hw.elim
   exact hi e (mem_keepL.2 (.inr ⟨he,by rw[hbb];exact hlt b _ hb⟩)) hw
  |_=>exact h1
 ·rcases mem_keepL.1 he with h1|⟨h1,h2⟩
  ·exact .inl h1
  ·rcases m.lw hw0 e h1 with h3|h3|h3
   ·cases h3
   ·exact .inr (.inl h3)
   ·exact .inr (.inr h3)
 ·rcases mem_keepL.1 he with h1|⟨h1,h2⟩
  ·have:=hb e h1
   have:=m.n;show e.blk<q.n;have:s.n<=q.n:=m.n;omega
  ·have:s.n<=q.n:=m.n
   show e.blk<q.n;omega
theorem Pre.cut{q:St}(m:Mono {s with log:=[]} q)(hp:Pre ρ T s (s.cut q) w):Pre ρ T {s with log:=[]} q w:=
 ⟨hp.good,fun e he hb=>hp.cov e (mem_keepL.2 (.inr ⟨he,hb⟩)) hb,hp.fresh,hp.wf,hp.tn⟩
theorem Post.cut{q:St}{ρ':Env}(m:Mono {s with log:=[]} q)(hp:Pre ρ T s (s.cut q) w)(h:Post ρ T {s with log:=[]} w ρ' q w'):Post ρ T s w ρ' (s.cut q) w':=by
 have hw0:WfS {s with log:=[]}:=hp.wf
 have key:∀e∈q.log,∀r,ρ e.blk=some r->e∈(s.cut q).log:=by
  intro e he r hr;refine mem_keepL.2 (.inr ⟨he,?_⟩);have h1:e.blk<q.n:=m.lb hw0 (by simp) e he;rcases Nat.lt_or_ge e.blk s.n with h2|h2
  ·exact h2
  ·rw[hp.fresh e.blk h2 h1] at hr;cases hr
 have hall:∀B,All ρ q.log B->All ρ (s.cut q).log B:=fun B ⟨b,r,h1,h2,h3⟩=>⟨b,r,key _ h1 r h2,h2,h3⟩
 have hwrt:∀B o,Wrt ρ q.log B o->Wrt ρ (s.cut q).log B o:=fun B o ⟨e,he,r,h1,h2,h3⟩=>⟨e,key e he r h1,r,h1,h2,h3⟩
 exact⟨h.ext,h.new,fun b r h1 h2 h3=>hall _ (h.fr b r h1 h2 h3),h.good,⟨h.unch.os,h.unch.tape,h.unch.output,h.unch.size,fun B hB hn=>h.unch.block B hB (fun o hw=>hn o (hwrt B o hw)),fun B c t fr hc hna=>by
  obtain⟨c',g1,g2,g3⟩:=h.unch.cells B c t fr hc (fun ha=>hna (hall B ha));exact⟨c',g1,g2,fun o ho=>g3 o (fun hw=>ho (hwrt B o hw))⟩⟩⟩
end
def DM(ρ:Env):Option AV->FrameMode->Prop
 |none,.returning=>True
 |some v,.panicking ch=>∃v',ch=[{v:=v',recovered:=false}]/\VR ρ v v'
 |_,_=>False
theorem DM.mono{ρ ρ':Env}{p:Option AV}{u:FrameMode}(h:DM ρ p u)(hr:ρ.le ρ'):DM ρ' p u:=by
 cases p<;>cases u<;>try exact h
 obtain⟨v',h1,h2⟩:=h;exact⟨v',h1,h2.mono hr⟩
theorem DM.run{ρ:Env}{p:Option AV}{u:FrameMode}(h:DM ρ p u):u≠.run:=by
 rintro rfl;cases p<;>exact h
def DSound(P:Program)(D:DCallee):Prop:=∀f args p s p' s',D f args p s=some (p',s')->WfS s->Mono s s'/\∀(ρ:Env) (T:Nat->Nat->Prop) (w:World) (vs:Array Value) (u:FrameMode),Pre ρ T s s' w->VRL ρ args vs.toList->DM ρ p u->
 (∀w1,(callFunc f vs).run P w1= .ok (.enter f vs) w1)/\∀n,CallsDIn Fence.wide n P f vs u w (fun e u' w'=>(∃v,e= .returned v)/\∃ρ',Post ρ T s w ρ' s' w'/\DM ρ' p' (settle u'))
section
variable {P:Program} {D:DCallee} {C:Callee}
theorem runDefs_mono(hD:DSound P D):∀{l:List DE} {p p':Option AV} {s s':St},runDefs D l p s=some (p',s')->WfS s->Mono s s'
 |[],p,p',s,s',h,_=>by cases h;exact Mono.refl _
 | .mark b::l,p,p',s,s',h,hwf=>by
   unfold runDefs at h;split at h
   ·rename_i hb
    have m1:Mono s ((s.put b .dead).note (.all b)):=Mono.put_note _ _ _ ⟨_,hb,trivial⟩;exact m1.trans (runDefs_mono hD h (m1.wf hwf))
   ·cases h
 | .fn f args::l,p,p',s,s',h,hwf=>by
   unfold runDefs at h;split at h
   ·rename_i h1
    have m1:=(hD _ _ _ _ _ _ h1 hwf).1;exact m1.trans (runDefs_mono hD h (m1.wf hwf))
   ·cases h
theorem runDefs_ok(hD:DSound P D){n:Nat}{fn:Func}{tmps:Array Value}{R:Ending->World->Prop}:∀{l:List DE} {ds:List Deferred} {p p':Option AV} {s s':St} {ρ:Env} {T:Nat->Nat->Prop} {w:World} {u:FrameMode},runDefs D l p s=some (p',s')->Pre ρ T s s' w->DefsR ρ l ds->DM ρ p u->
 (∀ρ' w' u',Post ρ T s w ρ' s' w'->DM ρ' p' u'->LeavesIn Fence.wide n P fn tmps R [] u' w')->LeavesInM Fence.wide n P fn tmps R ds u w
 |[],ds,p,p',s,s',ρ,T,w,u,h,hp,hd,hu,hk=>by
  cases h;cases hd;exact hk ρ w u (Post.refl hp) hu
 | .mark b::l,ds,p,p',s,s',ρ,T,w,u,h,hp,hd,hu,hk=>by
   unfold runDefs at h;split at h
   ·rename_i hb
    cases hd with
    |cons _ d _ ds hd1 hd2=>
    cases hd1 with
    |mark _ r hr=>
    have m1:Mono s ((s.put b .dead).note (.all b)):=Mono.put_note _ _ _ ⟨_,hb,trivial⟩;have m2:=runDefs_mono hD h (m1.wf hp.wf);have hT:∃i,T b i:=⟨0,hp.cov (.all b) (m2.log _ (List.mem_cons_self ..)) (lt_n hp.wf hb) b 0 rfl⟩
    obtain⟨r1,h1,h2⟩:=hp.good.sat b _ hb hT;have:r1=r:=Option.some.inj (h1.symm.trans hr);subst this;have post1:Post ρ T s w ρ ((s.put b .dead).note (.all b)) (w.putObj r1.blk (.deferred none)):=Post.alt (x':= .dead) hp.good hb trivial hT hr (alt_put w _ h2) trivial;refine⟨hu.run,.inl ⟨r1.blk,_,rfl,run_takeDeferred h2,?_⟩⟩;exact runDefs_ok hD h (hp.next m1 m2 post1) hd2 hu (fun ρ' w' u' hpost hu'=>hk ρ' w' u' (Post.trans m1 m2 post1 hpost) hu')
   ·cases h
 | .fn f args::l,ds,p,p',s,s',ρ,T,w,u,h,hp,hd,hu,hk=>by
   unfold runDefs at h;split at h
   ·rename_i p1 s1 h1
    cases hd with
    |cons _ d _ ds hd1 hd2=>
    cases hd1 with
    |fn _ _ cap asz hargs=>
    obtain⟨m1,k1⟩:=hD _ _ _ _ _ _ h1 hp.wf;have m2:=runDefs_mono hD h (m1.wf hp.wf);obtain⟨he,hc⟩:=k1 ρ T w (asz++cap) u (hp.first m2) hargs hu;refine⟨hu.run,.inr ⟨fun hh=>by simp[Fence.wide] at hh,.func f,cap,f,asz++cap,rfl,he w,fun _ _=>trivial,trivial,fun c cs hcu hroom=> ?_⟩⟩;obtain⟨_,hc'⟩:=hc (n-1);obtain⟨e,u',w',fr,⟨⟨v,hv⟩,ρ',hpost,hu'⟩,hrest⟩:=hc' c cs hcu hroom;subst hv;exact⟨.returned v,u',w',fr,runDefs_ok hD h (hp.next m1 m2 hpost) (hd2.mono hpost.ext) hu' (fun ρ2 w2 u2 hpost2 hu2=>hk ρ2 w2 u2 (Post.trans m1 m2 hpost hpost2) hu2),hrest⟩
   ·cases h
theorem initT_ok{ρ:Env}:∀(l:List AV) (vs:List Value) (i:Nat) (aa:AAct) (ts:Array Value),VRL ρ l vs->ActR ρ aa {tmps:=ts,defers:=[]}->ActR ρ (initT l i aa) {tmps:=(vs.zipIdx i).foldl (fun ts p=>ts.setIfInBounds p.2 p.1) ts,defers:=[]}
 |[],_,i,aa,ts,.nil,h=>h
 |x::l,_,i,aa,ts,.cons _ v _ vs hx ht,h=>by
  exact initT_ok l vs (i+1) (aa.putT i x) (ts.setIfInBounds i v) ht (h.putT i hx)
theorem fold_set:∀(vs:List Value) (i:Nat) (ts:Array Value),i+vs.length<=ts.size->(∀j,((vs.zipIdx i).foldl (fun ts p=>ts.setIfInBounds p.2 p.1) ts)[j]? =if i<=j/\j<i+vs.length then vs[j-i]?else ts[j]?)
 |[],i,ts,h,j=>by simp;omega
 |v::vs,i,ts,h,j=>by
  simp only[List.length_cons] at h;rw[List.zipIdx_cons,List.foldl_cons,fold_set vs (i+1) _ (by simp;omega)];by_cases h1:i+1<=j/\j<i+1+vs.length
  ·rw[if_pos h1,if_pos (by simp;omega)]
   have:j-i=(j-(i+1))+1:=by omega
   rw[this,List.getElem?_cons_succ]
  ·rw[if_neg h1]
   by_cases h2:j=i
   ·subst h2
    rw[if_pos ⟨n_,by simp⟩,Array.getElem?_setIfInBounds_self_of_lt (by omega)];simp
   ·rw[if_neg (by simp;omega),Array.getElem?_setIfInBounds_ne (Ne.symm h2)]
theorem start_ok{ρ:Env}{l:List AV}{vs:Array Value}{m:Nat}(h:VRL ρ l vs.toList)(hl:l.length<=m):ActR ρ (initT l 0 ⟨m,.leaf,[]⟩) {tmps:=vs++Array.replicate (m-vs.size) undef,defers:=[]}:=by
 have h0:ActR ρ ⟨m,.leaf,[]⟩ {tmps:=Array.replicate m undef,defers:=[]}:=by
  refine⟨by simp,fun t=> ?_,.nil⟩
  have:(Array.replicate m undef).getD t undef=undef:=by
   simp[Array.getD_eq_getD_getElem?,Array.getElem?_replicate];split<;>rfl
  rw[this];exact undef_ok
 have h1:=initT_ok l vs.toList 0 _ _ h h0;have hz:vs.size=l.length:=h.size
 have e:(vs.toList.zipIdx 0).foldl (fun ts p=>ts.setIfInBounds p.2 p.1) (Array.replicate m undef)=vs++Array.replicate (m-vs.size) undef:=by
  apply Array.ext_getElem?;intro j;rw[fold_set _ _ _ (by simp;omega)];by_cases hj:j<vs.size
  ·rw[if_pos (by simp;omega),Array.getElem?_append_left hj]
   simp
  ·rw[if_neg (by simp;omega),Array.getElem?_append_right (by omega)]
   simp only[Array.getElem?_replicate];by_cases h3:j<m
   ·rw[if_pos h3,if_pos (by omega)]
   ·rw[if_neg h3,if_neg (by omega)]
 rw[e] at h1;exact h1
end
end Go.Proofs.YtnocnbklhikmnaaGreatDoor.Rk
namespace Go.Proofs.YtnocnbklhikmnaaGreatDoor
open Go Go.RowKit Go.BigFrame
theorem eq_empty(s:ByteArray):(s.toList==[])=M.isE s:=by
 rw[ByteArray.toList_eq];unfold M.isE;cases s.data.toList<;>rfl
def toldE:Except Int ByteArray->Ending
 | .ok t=> .returned (.tuple #[.string t,.int .i64 0])
 | .error k=> .returned (.tuple #[.string ⟨#[]⟩,.int .i64 k])
theorem padL_succ(by_:List UInt8)(n:Nat):M.padL by_ (n+1)=M.padL by_ n++[by_.getD (n%by_.length) 0]:=by
 unfold M.padL;rw[List.range_succ,List.map_append];rfl
theorem pad_any(s bt:ByteArray)(n:Int)(w:World)(hs:s.size<=1048576)(hb:bt.size<=1048576)(hn:I64 n):Calls Tryz.prog 157 #[.string s,.int .i64 n,.string bt] w fun e w'=>e=toldE (M.pad s n bt)/\Below w.heap.size w w':=by
 have hE:=eq_empty bt;by_cases h1:n<=(s.size:Int)\/M.isE bt=true
 ·have HP:=q_ (show M.pad s n bt=if 4096<s.size then .error 2 else .ok s from if_pos h1)
  by_cases h2:4096<s.size
  ·have q2:decide (4096<(s.size:Int))=true:=by simp;omega
   rw[if_pos h2] at HP;by_cases h3:n<=(s.size:Int)
   ·have q1:decide (n<=(s.size:Int))=true:=by simpa using h3
    go_enter Tryz.func157,Tryz.ntmps157;go_wp2;go_ret2;exact⟨by rw[HP.o];rfl,Below.refl _ _⟩
   ·have q1:decide (n<=(s.size:Int))=false:=by simpa using h3
    rw[show M.isE bt=true by rcases h1 with h|h;exact absurd h h3;exact h] at hE;go_enter Tryz.func157,Tryz.ntmps157;go_wp2;go_ret2;exact⟨by rw[HP.o];rfl,Below.refl _ _⟩
  ·have q2:decide (4096<(s.size:Int))=false:=by simp;omega
   rw[if_neg h2] at HP;by_cases h3:n<=(s.size:Int)
   ·have q1:decide (n<=(s.size:Int))=true:=by simpa using h3
    go_enter Tryz.func157,Tryz.ntmps157;go_wp2;go_ret2;exact⟨by rw[HP.o];rfl,Below.refl _ _⟩
   ·have q1:decide (n<=(s.size:Int))=false:=by simpa using h3
    rw[show M.isE bt=true by rcases h1 with h|h;exact absurd h h3;exact h] at hE;go_enter Tryz.func157,Tryz.ntmps157;go_wp2;go_ret2;exact⟨by rw[HP.o];rfl,Below.refl _ _⟩
 ·have h3:¬n<=(s.size:Int):=fun h=>h1 (.inl h)
  have h4:M.isE bt=false:=by cases h:M.isE bt with|false=>rfl|true=>exact absurd (.inr h) h1
  have q1:decide (n<=(s.size:Int))=false:=by simpa using h3
  rw[h4] at hE;by_cases h5:4096<n
  ·have HP:=q_ (show M.pad s n bt= .error 2 by unfold M.pad;rw[if_neg h1,if_pos h5])
   have q2:decide (4096<n)=true:=by simpa using h5
   go_enter Tryz.func157,Tryz.ntmps157;go_wp2;go_ret2;exact⟨by rw[HP.o];rfl,Below.refl _ _⟩
  ·have q2:decide (4096<n)=false:=by simpa using h5
   obtain⟨m,hm⟩:∃m:Nat,n-(s.size:Int)=(m:Int):=⟨(n-s.size).toNat,by omega⟩
   have HP:=q_ (show M.pad s n bt= .ok (M.T (M.padL (M.L bt) m++M.L s)) by unfold M.pad;rw[if_neg h1,if_neg h5,hm];rfl);have hmm:m<=4096:=by omega
   have hbz:0<bt.size:=by
    rcases Nat.eq_zero_or_pos bt.size with h|h
    ·have e:bt.data.toList=[]:=List.length_eq_zero_iff.1 (Array.length_toList.trans h)
     unfold M.isE at h4;rw[e] at h4;cases h4
    ·exact h
   go_enter Tryz.func157,Tryz.ntmps157;go_wp2_with fail;go_loopw [8,28] (fun x y wr=>∃k:Nat,k<=m/\y= .int .i64 k/\OwnB wr w.heap.size x (M.padL (M.L bt) k)/\Below w.heap.size w wr) (fun _ y _=>m-(intOf y).toNat)
   case atStart=>exact⟨0,by omega,rfl,OwnB.nil _ _,Below.refl _ _⟩
   case round=>
    obtain⟨k,hk,rfl,hown,hbel⟩:=hrel;have HO:=q_ hown;have HB:=q_ hbel;clear hown hbel;by_cases hlt:k<m
    ·have q3:decide ((k:Int)<(m:Int))=true:=by simp;omega
     have hz:((bt.size:Int)==0)=false:=beq_eq_false_iff_ne.2 (by omega);have hr:(k:Int).tmod (bt.size:Int)=((k%bt.size:Nat):Int):=rfl;have hrl:k%bt.size<bt.size:=Nat.mod_lt _ hbz
     have HS:=q_ (show M.padL (M.L bt) (k+1)=M.padL (M.L bt) k++[bt[k%bt.size]] by
      have h2:k%bt.size<(M.L bt).length:=Nat.lt_of_lt_of_eq hrl Array.length_toList.symm;rw[padL_succ,show(M.L bt).length=bt.size from Array.length_toList,List.getD_eq_getElem?_getD,List.getElem?_eq_getElem h2];rfl)
     have HP2:=q_ (show(M.padL (M.L bt) k).length=k by simp[M.padL]);generalize hj:k%bt.size=j at*;go_wp2_with (at_builtin;refine wpList_append_bytes rfl (.tmp 31) (.tmp 38) rfl w.heap.size u8 (M.padL (M.L bt) k) rfl (HO.o.alloc _) ⟨wr.heap.size,0,none⟩ 1 1 [bt[j]] rfl rfl (newsU8 wr 5 [bt[j]]) (by rw[HP2.o];omega) (by have:=HB.o.size;simp;omega) ?_;intro o4 w4 hown4 hb4;have O4:=q_ hown4;have B4:=q_ (HB.o.trans ((((Below.refl wr.heap.size wr).alloc (n_) (.cells #[.int .u8 (bt[j].toNat:Int)] 5)).mono HB.o.size).trans hb4));clear hown4 hb4);go_roundw
     case rel=>exact⟨k+1,by omega,by go_num,by rw[HS.o];exact O4.o,B4.o⟩
     case measure=>simp[intOf];omega
    ·have q3:decide ((k:Int)<(m:Int))=false:=by simp;omega
     obtain rfl:k=m:=by omega
     have hst:=HO.o.string
     have hno:¬9223372036854775807<(M.padL (M.L bt) k).length+s.size:=by
      rw[show(M.padL (M.L bt) k).length=k by simp[M.padL]];omega
     have hcat:(⟨(M.padL (M.L bt) k).toArray⟩++s:ByteArray)=M.T (M.padL (M.L bt) k++M.L s):=by
      apply ByteArray.ext;rw[ByteArray.data_append];apply Array.toList_inj.1;simp[M.T,M.L]
     go_wp2_with fail;go_ret2;refine⟨?_,HB.o⟩;rw[HP.o];exact congrArg (fun t=>Ending.returned (.tuple #[.string t,.int .i64 0])) hcat
end Go.Proofs.YtnocnbklhikmnaaGreatDoor
