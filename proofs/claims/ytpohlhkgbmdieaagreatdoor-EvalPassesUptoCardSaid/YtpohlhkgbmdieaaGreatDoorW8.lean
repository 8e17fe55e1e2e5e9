/- Part 8 of the proof. -/
import Derived.Test.YtpohlhkgbmdieaaGreatDoorW7
import Derived.LoopNIn
import Derived.ScopeJumps
set_option linter.unusedVariables false
set_option maxRecDepth 1000000
set_option maxHeartbeats 16000000
namespace Go.Proofs.YtpohlhkgbmdieaaGreatDoor.Rk
open Go
def tO(L:Nat->Bool)(k:Nat):Nat->Bool:=fun j=>if j=k then true else L j
def TL(ops:List Oper)(S:Nat->St)(T:Nat->Nat->Prop)(L:Nat->Bool):Nat->Nat->Prop:=fun b i=>T b i\/∃j,j<ops.length/\L j=true/\(S j).n<=b/\b<(S (j+1)).n
structure x5(ops:List Oper)(ss:List oy)(S:Nat->St)(sz:Nat)(qG:Env)(T:Nat->Nat->Prop)(w0:World)(a0:Act)(L:Nat->Bool)(E:Nat)(h:Nat->Option bK)(ρ:Env)(a:Act)(w:World):Prop where
 size:a.tmps.size=sz
 defs:a.defers=a0.defers
 old:∀t,(∀(j:Nat) (o:Oper),ops[j]? =some o->L j=true->o.dst≠some t)->a.tmps.getD t undef=a0.tmps.getD t undef
 val:∀(j:Nat) (x:oy) (o:Oper) t,ss[j]? =some x->L j=true->ops[j]? =some o->o.dst=some t->VR ρ x.v (a.tmps.getD t undef)
 ext:qG.le ρ
 new:∀b r,ρ b=some r->qG b=some r\/∃j,j<ops.length/\L j=true/\(S j).n<=b/\b<(S (j+1)).n
 fr:∀b r,qG b=none->ρ b=some r->r.blk<w0.heap.size->All qG (S ops.length).log r.blk
 good:Good ρ (TL ops S T L) h w
 fG:rM qG (S ops.length).log w0 w
 closed:∀k j,L k=true->(W ops k).testBit j=true->L j=true
 VD:∀(j:Nat) (x:oy),ss[j]? =some x->x.wr=true->(L j=true<->j<E)
 top:E<=ops.length
 h1:∀b y,live y->b<(S E).n->(∃i,TL ops S T L b i)->(h b=some y<->(S E).heap.get b=some y)
 h2:∀j b y,live y->L j=true->E<=j->j<ops.length->(S j).n<=b->b<(S (j+1)).n->(h b=some y<->(S (j+1)).heap.get b=some y)
section
variable {P:Program} {C:Callee} {Y:eJ} (hC:dN P C) (hY:fZ P Y) {ops:List Oper} {ss:List oy} {A:Nat->bI} {S:Nat->St} (X:Text P C Y ops ss A S) (hw0:ki (S 0))
 {qG:Env} {T:Nat->Nat->Prop} {w0:World} {a0:Act} (hp:Pre qG T (S 0) (S ops.length) w0)
include hC hY X hw0 hp
theorem VE{L:Nat->Bool}{E:Nat}{h:Nat->Option bK}{ρ:Env}{a:Act}{w:World}(I:x5 ops ss S (A 0).sz qG T w0 a0 L E h ρ a w){k:Nat}{x:oy}(hx:ss[k]? =some x)(eX:∀j,(W ops k).testBit j=true->L j=true){e:LE}(he:e∈x.q.log){i:Nat}(hi:e.at e.blk i)(hb:e.blk<(S k).n):TL ops S T L e.blk i:=by
 have hk:k<ops.length:=by have:=(g_ hx).1;rw[X.len] at this;exact this
 by_cases h0:e.blk<(S 0).n
 ·exact .inl (hp.o8 e (Sg hC hY X hw0 hx e he) h0 _ _ hi)
 ·obtain⟨j,g1,g2,g3,g4⟩:=uv hC hY X hw0 (b:=e.blk) k 0 (by omega) (by omega) (by omega) hb
  refine .inr ⟨j,by omega,?_,g3,g4⟩;cases iE:(W ops k).testBit j with
  |true=>exact eX j iE
  |false=>
   obtain⟨y,o,hy,_⟩:=mY hC hY X hw0 (show j<ops.length by omega);obtain⟨_,_,n1,_,_,n2,_⟩:=eN hC hY X hw0 hy (j7 hC hY X hw0 j (by omega));have:=(gh (X.clash j k y x g2 hy hx iE)).2.1 e he;exact absurd ⟨by omega,by omega⟩ this
theorem VF{k:Nat}{x:oy}(hx:ss[k]? =some x){e:LE}(he:e∈x.q.log)(hb:e.blk<(S k).n):∃z,(S k).heap.get e.blk=some z/\live z:=by
 have _all:=hp;have hk:k<ops.length:=by have:=(g_ hx).1;rw[X.len] at this;exact this
 have bf:=j7 hC hY X hw0 k (by omega);obtain⟨m,h1,h2,h3,_⟩:=eN hC hY X hw0 hx bf;rcases m.lw (by intro b hb;rw[h1];exact bf b (by omega)) e he with h4|h4|h4
 ·rw[h3] at h4;simp at h4
 ·omega
 ·rw[h1] at h4;exact h4
def TK(S:Nat->St)(k:Nat)(x:oy):Nat->Nat->Prop:=fun b i=>b<(S k).n/\∃e∈x.q.log,e.at b i
omit hC hY X hw0 hp in
theorem ux{e:LE}{b i:Nat}(h:e.at b i):e.blk=b:=by cases e<;>first|exact h.1|exact h
theorem sM{L:Nat->Bool}{E:Nat}{h:Nat->Option bK}{ρ:Env}{a:Act}{w:World}(I:x5 ops ss S (A 0).sz qG T w0 a0 L E h ρ a w){k:Nat}{x:oy}(hx:ss[k]? =some x)(eX:∀j,(W ops k).testBit j=true->L j=true){b i:Nat}(ht:TK S k x b i):TL ops S T L b i:=by
 obtain⟨hb,e,he,hi⟩:=ht;have:=ux hi;subst this;exact VE hC hY X hw0 hp I hx eX he hi hb
theorem mZ{L:Nat->Bool}{E:Nat}{h:Nat->Option bK}{ρ:Env}{a:Act}{w:World}(I:x5 ops ss S (A 0).sz qG T w0 a0 L E h ρ a w){k:Nat}{x:oy}(hx:ss[k]? =some x)(hL:L k=false)(eX:∀j,(W ops k).testBit j=true->L j=true){b i:Nat}(ht:TK S k x b i):
 ∃y z,(S k).heap.get b=some y/\h b=some z/\live y/\zO (TK S k x b) z y:=by
 have hk:k<ops.length:=by have:=(g_ hx).1;rw[X.len] at this;exact this
 have VG:=sM hC hY X hw0 hp I hx eX ht;obtain⟨hb,e,he,hi⟩:=ht;have hbe:=ux hi;obtain⟨y,hy,mO⟩:=VF hC hY X hw0 hp hx he (by rw[hbe];exact hb);rw[hbe] at hy
 have quiet:∀l y',ss[l]? =some y'->((l<k/\L l=false)\/(k<l/\L l=true))\/y'.wr=false->LE.all b∉y'.q.log/\∀i,TK S k x b i->∀e∈y'.q.log,¬e.wrote b i:=by
  intro l y' hy' se;rcases se with se|se
  ·have lH:(∀f∈y'.q.log,∀e∈x.q.log,f.hits e=false\/e.hits f=false):=by
    intro f hf e he;rcases se with⟨h1,h2⟩|⟨h1,h2⟩
    ·have iE:(W ops k).testBit l=false:=by
      cases hh:(W ops k).testBit l with
      |true=>rw[eX l hh] at h2;cases h2
      |false=>rfl
     exact .inl ((gh (X.clash l k y' x h1 hy' hx iE)).1 f hf e he)
    ·have iE:(W ops l).testBit k=false:=by
      cases hh:(W ops l).testBit k with
      |true=>rw[I.closed l k h2 hh] at hL;cases hL
      |false=>rfl
     exact .inr ((gh (X.clash k l x y' h1 hx hy' iE)).1 e he f hf)
   refine⟨fun hall=> ?_,fun i' ⟨_,e',he',hi'⟩ f hf hw=> ?_⟩
   ·obtain⟨q1,q2⟩:=VC hi
    rcases lH _ hall e he with h3|h3
    ·rw[q1] at h3;cases h3
    ·rw[q2] at h3;cases h3
   ·obtain⟨q1,q2⟩:=Zk hi' hw
    rcases lH _ hf e' he' with h3|h3
    ·rw[q1] at h3;cases h3
    ·rw[q2] at h3;cases h3
  ·exact⟨(quiet_of (i:=0) se).1,fun i' _=>(quiet_of se).2⟩
 by_cases hEk:E<=k
 ·
  have hq:∀i0,E<=i0->∀l y',i0<=l->l<k->ss[l]? =some y'->LE.all b∉y'.q.log/\∀i,TK S k x b i->∀e∈y'.q.log,¬e.wrote b i:=by
   intro i0 Nr l y' h1 h2 hy';refine quiet l y' hy' ?_;cases hwr:y'.wr with
   |false=>exact .inr rfl
   |true=>
    refine .inl (.inl ⟨h2,?_⟩);cases hl:L l with
    |false=>rfl
    |true=>have:=(I.VD l y' hy' hwr).1 hl;omega
  by_cases Tc:b<(S E).n
  ·obtain⟨z,hz,hzl⟩:=nI hC hY X hw0 k E hEk (by omega) Tc y hy mO
   obtain⟨y2,eI,zP⟩:=gG hC hY X hw0 k E hEk (by omega) (hq E (n_)) z hz;rw[hy] at eI;cases eI;exact⟨y,z,hy,(I.h1 b z hzl Tc ⟨i,VG⟩).2 hz,mO,zP⟩
  ·obtain⟨j,g1,g2,g3,g4⟩:=uv hC hY X hw0 (b:=b) k E hEk (by omega) (by omega) hb
   have hLj:L j=true:=by
    cases iE:(W ops k).testBit j with
    |true=>exact eX j iE
    |false=>
     obtain⟨y',o,hy',_⟩:=mY hC hY X hw0 (show j<ops.length by omega);obtain⟨_,_,n1,_,_,n2,_⟩:=eN hC hY X hw0 hy' (j7 hC hY X hw0 j (by omega));have:=(gh (X.clash j k y' x g2 hy' hx iE)).2.1 e he;exact absurd ⟨by omega,by omega⟩ this
   obtain⟨z,hz,hzl⟩:=nI hC hY X hw0 k (j+1) (by omega) (by omega) g4 y hy mO;obtain⟨y2,eI,zP⟩:=gG hC hY X hw0 k (j+1) (by omega) (by omega) (hq (j+1) (by omega)) z hz;rw[hy] at eI;cases eI;exact⟨y,z,hy,(I.h2 j b z hzl hLj g1 (by omega) g3 g4).2 hz,mO,zP⟩
 ·have hkE:k<E:=by omega
  have hnw:x.wr=false:=by
   cases hwr:x.wr with
   |false=>rfl
   |true=>rw[(I.VD k x hx hwr).2 hkE] at hL;cases hL
  have Tc:b<(S E).n:=l_ hb (kV hC hY X hw0 E k (by omega) I.top)
  obtain⟨z,hz,zP⟩:=gG hC hY X hw0 E k (by omega) I.top (fun l y' h1 h2 hy'=>by
   refine quiet l y' hy' ?_;by_cases hlk:l=k
   ·subst hlk
    rw[hx] at hy';cases hy';exact .inr hnw
   ·cases hwr:y'.wr with
    |false=>exact .inr rfl
    |true=>exact .inl (.inr ⟨by omega,(I.VD l y' hy' hwr).2 h2⟩)) y hy
  exact⟨y,z,hy,(I.h1 b z (zP.live mO) Tc ⟨i,VG⟩).2 hz,mO,zP.symm⟩
theorem Sh{L:Nat->Bool}{E:Nat}{h:Nat->Option bK}{ρ:Env}{a:Act}{w:World}(I:x5 ops ss S (A 0).sz qG T w0 a0 L E h ρ a w){k:Nat}{x:oy}(hx:ss[k]? =some x)(hL:L k=false)(eX:∀j,(W ops k).testBit j=true->L j=true):
 Pre ρ (TK S k x) x.p x.q w:=by
 have hk:k<ops.length:=by have:=(g_ hx).1;rw[X.len] at this;exact this
 have bf:=j7 hC hY X hw0 k (by omega);obtain⟨m,p1,p2,p3,p4,p5,p6⟩:=eN hC hY X hw0 hx bf;refine⟨⟨fun b y hy ⟨i,hi⟩=> ?_,fun b b' r r' y y' hy hy' hl hl' ⟨i,hi⟩ ⟨i',hi'⟩ hr nL e=> ?_,I.good.old⟩,fun e he hb b i hi=> ?_,fun b h1 h2=> ?_,by intro b hb;rw[p1];exact bf b (by omega),fun b i hi=>by rw[p2];exact hi.1⟩
 ·rw[p1] at hy
  obtain⟨y0,z,g1,g2,g3,g4⟩:=mZ hC hY X hw0 hp I hx hL eX hi;rw[g1] at hy;cases hy;exact(I.good.sat b z g2 ⟨i,sM hC hY X hw0 hp I hx eX hi⟩).agree g4 (fun j hj=>sM hC hY X hw0 hp I hx eX hj)
 ·rw[p1] at hy hy'
  obtain⟨y0,z,g1,g2,g3,g4⟩:=mZ hC hY X hw0 hp I hx hL eX hi;obtain⟨y0',z',g1',g2',g3',g4'⟩:=mZ hC hY X hw0 hp I hx hL eX hi';exact I.good.inj b b' r r' z z' g2 g2' (g4.symm.live g3) (g4'.symm.live g3') ⟨i,sM hC hY X hw0 hp I hx eX hi⟩ ⟨i',sM hC hY X hw0 hp I hx eX hi'⟩ hr nL e
 ·have:=ux hi
  exact⟨by omega,e,he,hi⟩
 ·cases hr:ρ b with
  |none=>rfl
  |some r=>
   exfalso;rcases I.new b r hr with h3|⟨j,h3,h4,h5,h6⟩
   ·have:=kV hC hY X hw0 k 0 (by omega) (by omega)
    have:=kV hC hY X hw0 ops.length (k+1) (by omega) (n_);rw[hp.fresh b (by omega) (by omega)] at h3;cases h3
   ·have:=IV hC hY X hw0 (b:=b) hk h3 (by omega) (by omega) h5 h6
    subst this;rw[hL] at h4;cases h4
theorem VH{L:Nat->Bool}{E:Nat}{h:Nat->Option bK}{ρ ρ':Env}{a:Act}{w w':World}(I:x5 ops ss S (A 0).sz qG T w0 a0 L E h ρ a w){k:Nat}{x:oy}{o:Oper}(hx:ss[k]? =some x)(ho:ops[k]? =some o)(hL:L k=false)(eX:∀j,(W ops k).testBit j=true->L j=true)(jbz:∀d,o.dst=some d->d<(A 0).sz/\∀(j:Nat) (q:Oper),ops[j]? =some q->q.dst=some d->j=k)(aM:Post ρ (TK S k x) x.p w ρ' x.q w'){v':Value}(hv:VR ρ' x.v v'):
 ∃E' h',x5 ops ss S (A 0).sz qG T w0 a0 (tO L k) E' h' ρ' (a.put o.dst v') w':=by
 have hk:k<ops.length:=by have:=(g_ hx).1;rw[X.len] at this;exact this
 have bf:=j7 hC hY X hw0 k (by omega);obtain⟨m,p1,p2,p3,p4,p5,p6⟩:=eN hC hY X hw0 hx bf;have lG:=Sh hC hY X hw0 hp I hx hL eX;have IW:∀j,tO L k j=true<->j=k\/L j=true:=fun j=>by unfold tO;by_cases h:j=k<;>simp[h]
 have VG:∀b i,TL ops S T (tO L k) b i<->Tn (TL ops S T L) x.p.n x.q.n b i:=by
  intro b i;constructor
  ·rintro(h1|⟨j,h1,h2,h3,h4⟩)
   ·exact .inl (.inl h1)
   ·rcases(IW j).1 h2 with rfl|h2
    ·exact .inr ⟨by omega,by omega⟩
    ·exact .inl (.inr ⟨j,h1,h2,h3,h4⟩)
  ·rintro((h1|⟨j,h1,h2,h3,h4⟩)|h1)
   ·exact .inl h1
   ·exact .inr ⟨j,h1,(IW j).2 (.inr h2),h3,h4⟩
   ·exact .inr ⟨k,hk,(IW k).2 (.inl rfl),by omega,by omega⟩
 have VI:TL ops S T (tO L k)=Tn (TL ops S T L) x.p.n x.q.n:=by funext b i;exact propext (VG b i)
 have Cf:∀b i,x.p.n<=b->b<x.q.n->¬TL ops S T L b i:=by
  rintro b i h1 h2 (h3|⟨j,h3,h4,h5,h6⟩)
  ·have:=hp.tn b i h3
   have:=kV hC hY X hw0 k 0 (by omega) (by omega);omega
  ·have:=IV hC hY X hw0 (b:=b) hk h3 (by omega) (by omega) h5 h6
   subst this;rw[hL] at h4;cases h4
 have Ce:∀e∈x.q.log,e.blk<x.p.n->∀i,e.at e.blk i->TK S k x e.blk i:=fun e he hb i hi=>⟨by omega,e,he,hi⟩
 have Fg:∀b,(∃i,TK S k x b i)->∃z,h b=some z/\live z:=fun b ⟨i,hi⟩=>by
  obtain⟨y0,z,g1,g2,g3,g4⟩:=mZ hC hY X hw0 hp I hx hL eX hi;exact⟨z,g2,g4.symm.live g3⟩
 have hput:(a.put o.dst v').tmps.size=(A 0).sz/\(a.put o.dst v').defers=a0.defers:=by
  cases hd:o.dst with
  |none=>exact⟨I.size,I.defs⟩
  |some d=>exact⟨by simp[Act.put,I.size],I.defs⟩
 have Si:∀t,o.dst≠some t->(a.put o.dst v').tmps.getD t undef=a.tmps.getD t undef:=fun t ht=>by
  cases hd:o.dst with
  |none=>rfl
  |some d=>
   have:d≠t:=fun e=>ht (by rw[hd,e]);simp[Act.put,Array.getD_eq_getD_getElem?,this]
 have Zl:∀t,o.dst=some t->(a.put o.dst v').tmps.getD t undef=v':=fun t ht=>by
  rw[ht];have:=(jbz t ht).1;simp[Act.put,Array.getD_eq_getD_getElem?,I.size,this]
 have hold:∀t,(∀(j:Nat) (q:Oper),ops[j]? =some q->tO L k j=true->q.dst≠some t)->(a.put o.dst v').tmps.getD t undef=a0.tmps.getD t undef:=fun t ht=>by
  rw[Si t (ht k o ho ((IW k).2 (.inl rfl)))];exact I.old t (fun j q hq hj=>ht j q hq ((IW j).2 (.inr hj)))
 have hval:∀(j:Nat) (y:oy) (q:Oper) t,ss[j]? =some y->tO L k j=true->ops[j]? =some q->q.dst=some t->VR ρ' y.v ((a.put o.dst v').tmps.getD t undef):=fun j y q t hy hj hq ht=>by
  rcases(IW j).1 hj with rfl|hj'
  ·rw[hx] at hy
   rw[ho] at hq;cases hy;cases hq;rw[Zl t ht];exact hv
  ·rw[Si t (fun e=>by
    have:=(jbz t e).2 j q hq ht;rw[this,hL] at hj';cases hj')]
   exact(I.val j y q t hy hj' hq ht).mono aM.ext
 have J9:∀i j,tO L k i=true->(W ops i).testBit j=true->tO L k j=true:=fun i j hi hj=>by
  rcases(IW i).1 hi with rfl|hi
  ·exact(IW j).2 (.inr (eX j hj))
  ·exact(IW j).2 (.inr (I.closed i j hi hj))
 have Ae:∀b r,ρ' b=some r->qG b=some r\/∃j,j<ops.length/\tO L k j=true/\(S j).n<=b/\b<(S (j+1)).n:=fun b r hr=>by
  rcases aM.new b r hr with h3|h3
  ·rcases I.new b r h3 with h4|⟨j,h4,h5,h6⟩
   ·exact .inl h4
   ·exact .inr ⟨j,h4,(IW j).2 (.inr h5),h6⟩
  ·exact .inr ⟨k,hk,(IW k).2 (.inl rfl),by omega,by omega⟩
 have Ka:∀e∈x.q.log,e∈(S ops.length).log:=Sg hC hY X hw0 hx;have Zm:∀b r,qG b=none->ρ b=some r->r.blk<w0.heap.size->All qG (S ops.length).log r.blk:=I.fr
 have vn:∀b r,qG b=none->ρ' b=some r->r.blk<w0.heap.size->All qG (S ops.length).log r.blk:=fun b r h1 h2 h3=>by
  cases h4:ρ b with
  |some r1=>
   have:r1=r:=i_ ((aM.ext _ _ h4).symm.trans h2);subst this;exact Zm b r1 h1 h4 h3
  |none=>exact((aM.fr b r h4 h2 (l_ h3 I.fG.size)).mono (Env.le_refl ρ) Ka).back h3 (fun e he=>he) I.ext Zm
 have W6:rM qG (S ops.length).log w0 w':=by
  have hu:rM ρ (S ops.length).log w w':=⟨aM.fG.os,aM.fG.tape,aM.fG.output,aM.fG.size,fun B hB hn=>aM.fG.block B hB (fun o hw=>hn o (hw.mono (Env.le_refl ρ) Ka)),fun B c t fr hc MM=>by
   obtain⟨c',g1,g2,g3⟩:=aM.fG.cells B c t fr hc (fun ha=>MM (ha.mono (Env.le_refl ρ) Ka));exact⟨c',g1,g2,fun o ho=>g3 o (fun hw=>ho (hw.mono (Env.le_refl ρ) Ka))⟩⟩
  exact I.fG.trans hu (fun e he=>he) I.ext Zm
 cases hwr:x.wr with
 |false=>
  refine⟨E,fun b=>if x.p.n<=b/\b<x.q.n then x.q.heap.get b else h b,hput.1,hput.2,hold,hval,Env.le_trans I.ext aM.ext,Ae,vn,?_,W6,J9,fun j y hy VJ=> ?_,I.top,fun b y mO hb hT=> ?_,fun j b y mO hj Zn DC h3 h4=> ?_⟩
  ·rw[VI]
   refine pn I.good lG aM m p3 (fun b i hi=>sM hC hY X hw0 hp I hx eX hi) Fg Cf Ce (fun b h1 h2=>if_pos ⟨h1,h2⟩) (fun b y hT hn hy hl=> ?_) (fun b y' ht hy hl=> ?_)
   ·obtain⟨i,hi⟩:=hT
    by_cases hm:x.p.n<=b/\b<x.q.n
    ·exact absurd hi (Cf b i hm.1 hm.2)
    ·simpa[hm] using hy
   ·obtain⟨i,hi⟩:=ht
    have tW:b<x.p.n:=by rw[p2];exact hi.1
    obtain⟨y0,z,g1,g2,g3,g4⟩:=mZ hC hY X hw0 hp I hx hL eX hi
    have hyz:y'=z:=by
     have hm:¬(x.p.n<=b/\b<x.q.n):=by omega
     have eI:h b=some y':=by simpa[hm] using hy
     rw[g2] at eI;exact(i_ eI).symm
    subst hyz;have Fi:=m.keep lG.wf b y0 (by rw[p1];exact g1) (quiet_of (b:=b) (i:=0) hwr).1;obtain⟨y1,fI,Zo⟩:=fq.ag (Tb:=fun _=>True) Fi (fun i _=>(quiet_of hwr).2);have:=Zo.eq;subst this;refine⟨y1,fI,g3,?_⟩;have g5:=g4.symm;cases y1 with
    |cells t cs'=>
     obtain⟨cs,rfl,k2,k3⟩:=g5;exact⟨cs,rfl,k2,k3,.inr ⟨cs,g2,fun _ _=>rfl⟩⟩
    |_=>exact g5
  ·rw[IW]
   constructor
   ·rintro(rfl|h1)
    ·rw[hx] at hy;cases hy;rw[hwr] at VJ;cases VJ
    ·exact(I.VD j y hy VJ).1 h1
   ·exact fun h1=> .inr ((I.VD j y hy VJ).2 h1)
  ·show(if x.p.n<=b/\b<x.q.n then x.q.heap.get b else h b)=some y<->_
   by_cases hm:x.p.n<=b/\b<x.q.n
   ·rw[if_pos hm,<-p4]
    have hkE:k<E:=by
     rcases Nat.lt_or_ge k E with h5|h5
     ·exact h5
     ·have:=kV hC hY X hw0 k E h5 (by omega);omega
    have hq:∀l y',k+1<=l->l<E->ss[l]? =some y'->LE.all b∉y'.q.log/\∀i,True->∀e∈y'.q.log,¬e.wrote b i:=by
     intro l y' g1 g2 hy';cases FC:y'.wr with
     |false=>exact⟨(quiet_of (i:=0) FC).1,fun i _=>(quiet_of FC).2⟩
     |true=>
      have hLl:=(I.VD l y' hy' FC).2 g2
      have iE:(W ops l).testBit k=false:=by
       cases hh:(W ops l).testBit k with
       |true=>rw[I.closed l k hLl hh] at hL;cases hL
       |false=>rfl
      have hno:=(gh (X.clash k l x y' (by omega) hx hy' iE)).2.1;refine⟨fun he=>hno _ he ⟨hm.1,hm.2⟩,fun i _ e he hw=> ?_⟩;cases e with
      |rd=>exact hw.elim
      |all=>exact hw.elim
      |wr c j n=>obtain⟨rfl,_⟩:=hw;exact hno _ he ⟨hm.1,hm.2⟩
    constructor
    ·intro hg
     obtain⟨y2,eI,zP⟩:=gG hC hY X hw0 E (k+1) (by omega) I.top hq y hg;rw[eI,zP.eq]
    ·intro hg
     obtain⟨z,hz,hzl⟩:=nI hC hY X hw0 E (k+1) (by omega) I.top (by omega) y hg mO;obtain⟨y2,eI,zP⟩:=gG hC hY X hw0 E (k+1) (by omega) I.top hq z hz;rw[hg] at eI;rw[hz,i_ eI,zP.eq]
   ·rw[if_neg hm]
    obtain⟨i,hi⟩:=hT;refine I.h1 b y mO hb ⟨i,?_⟩;rcases(VG b i).1 hi with h5|h5
    ·exact h5
    ·exact absurd h5 hm
  ·show(if x.p.n<=b/\b<x.q.n then x.q.heap.get b else h b)=some y<->_
   rcases(IW j).1 hj with rfl|hj
   ·rw[if_pos ⟨by omega,by omega⟩,p4]
   ·by_cases hm:x.p.n<=b/\b<x.q.n
    ·have:=IV hC hY X hw0 (b:=b) hk DC (by omega) (by omega) h3 h4
     subst this;rw[hL] at hj;cases hj
    ·rw[if_neg hm]
     exact I.h2 j b y mO hj Zn DC h3 h4
 |true=>
  have jbA:∀(j:Nat) (y:oy),ss[j]? =some y->y.wr=true->j≠k->(L j=true<->j<k):=by
   intro j y hy VJ hjk;constructor
   ·intro hj
    rcases Nat.lt_or_ge j k with h5|h5
    ·exact h5
    ·have iE:(W ops j).testBit k=false:=by
      cases hh:(W ops j).testBit k with
      |true=>rw[I.closed j k hj hh] at hL;cases hL
      |false=>rfl
     exact absurd ⟨hwr,VJ⟩ (gh (X.clash k j x y (by omega) hx hy iE)).2.2
   ·intro hj
    cases iE:(W ops k).testBit j with
    |true=>exact eX j iE
    |false=>exact absurd ⟨VJ,hwr⟩ (gh (X.clash j k y x hj hy hx iE)).2.2
  have hEk:E<=k:=by
   rcases Nat.lt_or_ge k E with h5|h5
   ·rw[(I.VD k x hx hwr).2 h5] at hL;cases hL
   ·exact h5
  have hq:∀b i0,E<=i0->∀l y',i0<=l->l<k->ss[l]? =some y'->LE.all b∉y'.q.log/\∀i,True->∀e∈y'.q.log,¬e.wrote b i:=by
   intro b i0 Nr l y' g1 g2 hy';cases FC:y'.wr with
   |false=>exact⟨(quiet_of (i:=0) FC).1,fun i _=>(quiet_of FC).2⟩
   |true=>
    have h6:=(jbA l y' hy' FC (by omega)).2 g2;have:=(I.VD l y' hy' FC).1 h6;omega
  have rS:∀b y,live y->b<(S k).n->(∃i,TL ops S T L b i)->(h b=some y<->(S k).heap.get b=some y):=by
   intro b y mO hb hT
   have both:∀i0,E<=i0->i0<=k->b<(S i0).n->((S i0).heap.get b=some y<->(S k).heap.get b=some y):=by
    intro i0 h6 h7 h8;constructor
    ·intro hg
     obtain⟨y2,eI,zP⟩:=gG hC hY X hw0 k i0 h7 (by omega) (hq b i0 h6) y hg;rw[eI,zP.eq]
    ·intro hg
     obtain⟨z,hz,hzl⟩:=nI hC hY X hw0 k i0 h7 (by omega) h8 y hg mO;obtain⟨y2,eI,zP⟩:=gG hC hY X hw0 k i0 h7 (by omega) (hq b i0 h6) z hz;rw[hg] at eI;rw[hz,i_ eI,zP.eq]
   by_cases Tc:b<(S E).n
   ·exact(I.h1 b y mO Tc hT).trans (both E (n_) hEk Tc)
   ·obtain⟨i,hi⟩:=hT
    rcases hi with hi|⟨j,g1,g2,g3,g4⟩
    ·have:=hp.tn b i hi
     have:=kV hC hY X hw0 E 0 (by omega) I.top;omega
    ·have Zn:E<=j:=by
      rcases Nat.lt_or_ge j E with h6|h6
      ·have:=kV hC hY X hw0 E (j+1) (by omega) I.top;omega
      ·exact h6
     have hjk:j+1<=k:=by
      rcases Nat.lt_or_ge j k with h6|h6
      ·exact h6
      ·have:=kV hC hY X hw0 j k h6 (by omega);omega
     exact(I.h2 j b y mO g2 Zn g1 g3 g4).trans (both (j+1) (by omega) hjk g4)
  refine⟨k+1,fun b=>if b<x.q.n then x.q.heap.get b else h b,hput.1,hput.2,hold,hval,Env.le_trans I.ext aM.ext,Ae,vn,?_,W6,J9,fun j y hy VJ=> ?_,hk,fun b y mO hb hT=> ?_,fun j b y mO hj Zn DC h3 h4=> ?_⟩
  ·rw[VI]
   refine pn I.good lG aM m p3 (fun b i hi=>sM hC hY X hw0 hp I hx eX hi) Fg Cf Ce (fun b h1 h2=>if_pos h2) (fun b y hT hn hy hl=> ?_) (fun b y' ht hy hl=> ?_)
   ·by_cases hbq:b<x.q.n
    ·have eI:x.q.heap.get b=some y:=by simpa[hbq] using hy
     by_cases hbp:b<x.p.n
     ·obtain⟨z,hz,hzl⟩:=m.lv lG.wf b y hbp eI hl
      have jbB:LE.all b∉x.q.log:=fun hall=>hn 0 ⟨by omega,_,hall,rfl⟩
      obtain⟨y1,fI,Zo⟩:=fq.ag (Tb:=fun _=>True) (m.keep lG.wf b z hz jbB) (fun i _ e he hw=>hn i ⟨by omega,e,he,by
       cases e with
       |rd=>exact hw.elim
       |all=>exact hw.elim
       |wr c j n=>exact hw⟩)
      rw[eI] at fI;have:=Zo.eq;rw[<-i_ fI] at this;subst this;rw[p1] at hz;exact(rS b y hl (by omega) hT).2 hz
     ·obtain⟨i,hi⟩:=hT
      exact absurd hi (Cf b i (by omega) hbq)
    ·simpa[hbq] using hy
   ·obtain⟨i,hi⟩:=ht
    have tW:b<x.p.n:=by rw[p2];exact hi.1
    have hbq:b<x.q.n:=by have:=m.n;omega
    have eI:x.q.heap.get b=some y':=by simpa[hbq] using hy
    refine⟨y',eI,hl,?_⟩;obtain⟨z,hz,hzl⟩:=m.lv lG.wf b y' tW eI hl;have hzh:h b=some z:=(rS b z hzl (by omega) ⟨i,sM hC hY X hw0 hp I hx eX hi⟩).2 (by rw[<-p1];exact hz);cases y' with
    |cells t cs'=>
     refine⟨cs',rfl,rfl,fun _ _=>rfl,?_⟩;by_cases hall:LE.all b∈x.q.log
     ·exact .inl (fun i=>⟨by omega,_,hall,rfl⟩)
     ·have Fi:=m.keep lG.wf b z hz hall
      cases z with
      |cells t0 cs0=>
       obtain⟨cs2,k1,k2,k3⟩:=Fi;rw[eI] at k1;cases k1
       exact .inr ⟨cs0,hzh,fun j hj=>k3 j (fun e he hw=>hj ⟨by omega,e,he,by
        cases e with
        |rd=>exact hw.elim
        |all=>exact hw.elim
        |wr c j n=>exact hw⟩)⟩
      |map a b=>rw[Fi] at eI;cases eI
      |eE a b c d=>rw[Fi] at eI;cases eI
      |i1 a b=>rw[Fi] at eI;cases eI
      |pmap a=>rw[Fi] at eI;cases eI
      |defd=>rw[Fi] at eI;cases eI
      |loop a1 a2 a3 a4 a5 a6 a7 a8=>rw[Fi] at eI;cases eI
      |dead=>exact hzl.elim
    |_=>rfl
  ·rw[IW]
   by_cases hjk:j=k
   ·subst hjk;exact⟨fun _=>Nat.lt_succ_self _,fun _=> .inl rfl⟩
   ·have:=jbA j y hy VJ hjk
    constructor
    ·rintro(h1|h1)
     ·exact absurd h1 hjk
     ·have:=this.1 h1;omega
    ·exact fun h1=> .inr (this.2 (by omega))
  ·show(if b<x.q.n then x.q.heap.get b else h b)=some y<->_
   rw[if_pos (by omega),p4]
  ·show(if b<x.q.n then x.q.heap.get b else h b)=some y<->_
   have:=kV hC hY X hw0 j (k+1) Zn (by omega);rw[if_neg (by omega)];rcases(IW j).1 hj with h5|hj'
   ·omega
   ·exact I.h2 j b y mO hj' (by omega) DC h3 h4
end
section
variable {P:Program} {C:Callee} {Y:eJ} (hC:dN P C) (hY:fZ P Y) {ops:List Oper} {ss:List oy} {A:Nat->bI} {S:Nat->St} (X:Text P C Y ops ss A S)
include X
theorem VK:∀k,k<=ops.length->(A k).sz=(A 0).sz/\(A k).defs=(A 0).defs
 |0,_=>⟨rfl,rfl⟩
 |k+1,hk=>by
  have hx:ss[k]? =some (ss[k]'(by rw[X.len];omega)):=e_ _;obtain⟨_,h2,_⟩:=X.at_ k _ _ hx (e_ (show k<ops.length by omega));obtain⟨ih1,ih2⟩:=VK k (by omega);rw[h2];unfold bI.put bI.oZ;split
  ·split<;>exact⟨ih1,ih2⟩
  ·exact⟨ih1,ih2⟩
theorem xg(a:bI)(d:Option Tmp)(v:AV)(t:Nat)(h:d≠some t):(a.put d v).get t=a.get t:=by
 have _all:=X;unfold bI.put bI.oZ;split
 ·rename_i d'
  split
  ·unfold bI.get
   rw[Tr.iD,if_neg (fun e=>h (by rw[e]))]
  ·rfl
 ·rfl
theorem IX(a:bI)(v:AV)(t:Nat)(h:t<a.sz):(a.put (some t) v).get t=v:=by
 have _all:=X;unfold bI.put bI.oZ;simp only[if_pos h];unfold bI.get;rw[Tr.iD,if_pos rfl];rfl
theorem Kb{t:Nat}:∀k,k<=ops.length->(∀(j:Nat) (o:Oper),j<k->ops[j]? =some o->o.dst≠some t)->(A k).get t=(A 0).get t
 |0,_,_=>rfl
 |k+1,hk,h=>by
  have hx:ss[k]? =some (ss[k]'(by rw[X.len];omega)):=e_ _;have ho:ops[k]? =some (ops[k]'(by omega)):=e_ _;obtain⟨_,h2,_⟩:=X.at_ k _ _ hx ho;rw[h2,xg X _ _ _ _ (h k _ (by omega) ho)];exact Kb k (by omega) (fun j o hj=>h j o (by omega))
theorem Sj{t j:Nat}{x:oy}{o:Oper}(hx:ss[j]? =some x)(ho:ops[j]? =some o)(ht:o.dst=some t)(hsz:t<(A 0).sz)(je:∀(i:Nat) (q:Oper),ops[i]? =some q->q.dst=some t->i=j):∀k,j<k->k<=ops.length->(A k).get t=x.v
 |0,hj,_=>by omega
 |k+1,hj,hk=>by
  have hy:ss[k]? =some (ss[k]'(by rw[X.len];omega)):=e_ _;have hq:ops[k]? =some (ops[k]'(by omega)):=e_ _;obtain⟨_,h2,_⟩:=X.at_ k _ _ hy hq;by_cases hjk:j=k
  ·subst hjk
   rw[hx] at hy;rw[ho] at hq;rw[h2,<-i_ hy,<-i_ hq,ht,IX X _ _ _ (by rw[(VK X j (by omega)).1];exact hsz)]
  ·rw[h2,xg X _ _ _ _ (fun e=>hjk (je k _ hq e).symm)]
   exact Sj hx ho ht hsz je k (by omega) (by omega)
end
structure Wf(ops:List Oper)(sz:Nat):Prop where
 lt:∀(k:Nat) (o:Oper),ops[k]? =some o->∀j,(W ops k).testBit j=true->j<k
 looks:∀(k j:Nat) (o q:Oper) t,ops[k]? =some o->ops[j]? =some q->t∈wI ops o->q.dst=some t->(W ops k).testBit j=true\/(W ops j).testBit k=true
 dst:∀(k:Nat) (o:Oper) d,ops[k]? =some o->o.dst=some d->d<sz/\∀(j:Nat) (q:Oper),ops[j]? =some q->q.dst=some d->j=k
theorem Cg{α:Type}{l:List α}{k:Nat}{x:α}(h:l[k]? =some x):(x,k)∈l.zipIdx:=m_ (i:=k) (by rw[List.getElem?_zipIdx,h];simp)
theorem W7{ops:List Oper}{sz:Nat}(h:Rl ops sz (cZ ops)=true):Wf ops sz:=by
 unfold Rl at h;have key:∀(k:Nat) (o:Oper),ops[k]? =some o->_:=fun k o ho=>List.all_eq_true.1 h (o,k) (Cg ho);simp only[Bool.and_eq_true,decide_eq_true_eq] at key;refine⟨fun k o ho j hj=> ?_,fun k j o q t ho hq ht hd=> ?_,fun k o d ho hd=> ?_⟩
 ·have h1:=(key k o ho).1.1
  rcases Nat.lt_or_ge j k with h2|h2
  ·exact h2
  ·have h3:(cZ ops).getD k 0<2^j:=l_ h1 (Nat.pow_le_pow_right (by omega) h2)
   have:=Nat.testBit_lt_two_pow h3;unfold W at hj;rw[hj] at this;cases this
 ·have h1:=List.all_eq_true.1 ((key k o ho).1.2) t ht
  have h2:=List.all_eq_true.1 h1 (q,j) (Cg hq);simp only[Bool.or_eq_true,bne_iff_ne,ne_eq] at h2;rcases h2 with(h2|h2)|h2
  ·exact absurd hd h2
  ·exact .inl h2
  ·exact .inr h2
 ·have h1:=(key k o ho).2
  rw[hd] at h1;simp only[Bool.and_eq_true,decide_eq_true_eq] at h1;refine⟨h1.1,fun j q hq hqd=> ?_⟩;have h2:=List.all_eq_true.1 h1.2 (q,j) (Cg hq);simp only[Bool.or_eq_true,beq_iff_eq,bne_iff_ne,ne_eq] at h2;rcases h2 with h2|h2
  ·exact h2
  ·exact absurd hqd h2
section
variable {P:Program} {C:Callee} {Y:eJ} (hC:dN P C) (hY:fZ P Y) {ops:List Oper} {gf:Array Oper} (hop:gf.toList=ops) {ss:List oy} {A:Nat->bI} {S:Nat->St} (X:Text P C Y ops ss A S) (hw0:ki (S 0))
 {qG:Env} {T:Nat->Nat->Prop} {w0:World} {a0:Act} (hp:Pre qG T (S 0) (S ops.length) w0) (bf:Wf ops (A 0).sz) (ha:dp qG (A 0) a0)
include hC hY hop X hw0 hp bf ha
theorem size_eq:gf.size=ops.length:=by
 have _all:=(⟨hC,hY,X,hw0,hp,bf,ha⟩:_/\_/\_/\_/\_/\_/\_)
 rw[<-hop,Array.length_toList]
theorem Sk(k:Nat):gf[k]? =ops[k]? :=by
 have _all:=(⟨hC,hY,X,hw0,hp,bf,ha⟩:_/\_/\_/\_/\_/\_/\_)
 rw[<-hop,Array.getElem?_toList]
theorem VL:x5 ops ss S (A 0).sz qG T w0 a0 (fun _=>false) 0 (S 0).heap.get qG a0 w0:=by
 have _all:=(⟨hC,hY,hop,X,hw0,bf⟩:_/\_/\_/\_/\_/\_)
 have VG:TL ops S T (fun _=>false)=T:=by
  funext b i;exact propext ⟨fun h=>h.elim id (fun⟨j,_,h,_⟩=>by cases h),.inl⟩
 refine⟨ha.size,rfl,fun _ _=>rfl,fun j x o t _ h=>(by cases h),Env.le_refl _,fun b r h=> .inl h,fun(b:Nat) (r:RB) h1 h2 _=>(nomatch (h1.symm.trans h2)),(by rw[VG];exact hp.good),rM.refl _ _ _ _ rfl rfl rfl rfl,fun k j h=>(by cases h),fun j x _ _=>⟨fun h=>(by cases h),fun h=>(by omega)⟩,Nat.zero_le _,fun b y _ _ _=>Iff.rfl,fun j b y _ h=>(by cases h)⟩
theorem Zp{L:Nat->Bool}{E:Nat}{h:Nat->Option bK}{ρ:Env}{a:Act}{w:World}(I:x5 ops ss S (A 0).sz qG T w0 a0 L E h ρ a w)(hall:∀j,j<ops.length->L j=true):Post qG T (S 0) w0 ρ (S ops.length) w/\dp ρ (A ops.length) a:=by
 have _all:=hop
 have VG:∀b i,TL ops S T L b i<->Tn T (S 0).n (S ops.length).n b i:=by
  intro b i;constructor
  ·rintro(h1|⟨j,h1,h2,h3,h4⟩)
   ·exact .inl h1
   ·have:=kV hC hY X hw0 j 0 (by omega) (by omega)
    have:=kV hC hY X hw0 ops.length (j+1) (by omega) (n_);exact .inr ⟨by omega,by omega⟩
  ·rintro(h1|h1)
   ·exact .inl h1
   ·obtain⟨j,g1,g2,g3,g4⟩:=uv hC hY X hw0 (b:=b) ops.length 0 (by omega) (n_) h1.1 h1.2
    exact .inr ⟨j,g2,hall j g2,g3,g4⟩
 have VI:TL ops S T L=Tn T (S 0).n (S ops.length).n:=by funext b i;exact propext (VG b i)
 have hq:∀b i0,E<=i0->∀l y',i0<=l->l<ops.length->ss[l]? =some y'->LE.all b∉y'.q.log/\∀i,True->∀e∈y'.q.log,¬e.wrote b i:=by
  intro b i0 Nr l y' g1 g2 hy';cases FC:y'.wr with
  |false=>exact⟨(quiet_of (i:=0) FC).1,fun i _=>(quiet_of FC).2⟩
  |true=>have:=(I.VD l y' hy' FC).1 (hall l g2);omega
 have both:∀b y i0,live y->E<=i0->i0<=ops.length->b<(S i0).n->((S i0).heap.get b=some y<->(S ops.length).heap.get b=some y):=by
  intro b y i0 mO h6 h7 h8;constructor
  ·intro hg
   obtain⟨y2,eI,zP⟩:=gG hC hY X hw0 ops.length i0 h7 (n_) (hq b i0 h6) y hg;rw[eI,zP.eq]
  ·intro hg
   obtain⟨z,hz,hzl⟩:=nI hC hY X hw0 ops.length i0 h7 (n_) h8 y hg mO;obtain⟨y2,eI,zP⟩:=gG hC hY X hw0 ops.length i0 h7 (n_) (hq b i0 h6) z hz;rw[hg] at eI;rw[hz,i_ eI,zP.eq]
 have rS:∀b y,live y->(∃i,TL ops S T L b i)->(S ops.length).heap.get b=some y->h b=some y:=by
  intro b y mO hT hg;by_cases Tc:b<(S E).n
  ·exact(I.h1 b y mO Tc hT).2 ((both b y E mO (n_) I.top Tc).2 hg)
  ·obtain⟨i,hi⟩:=hT
   rcases hi with hi|⟨j,g1,g2,g3,g4⟩
   ·have:=hp.tn b i hi
    have:=kV hC hY X hw0 E 0 (by omega) I.top;omega
   ·have Zn:E<=j:=by
     rcases Nat.lt_or_ge j E with h6|h6
     ·have:=kV hC hY X hw0 E (j+1) (by omega) I.top;omega
     ·exact h6
    exact(I.h2 j b y mO g2 Zn g1 g3 g4).2 ((both b y (j+1) mO (by omega) (by omega) g4).2 hg)
 refine⟨⟨I.ext,fun b r hr=> ?_,I.fr,?_,I.fG⟩,⟨by rw[I.size,(VK X _ (n_)).1],fun t=> ?_,by rw[I.defs,(VK X _ (n_)).2];exact ha.defs.mono I.ext⟩⟩
 ·rcases I.new b r hr with h1|⟨j,h1,h2,h3,h4⟩
  ·exact .inl h1
  ·have:=kV hC hY X hw0 j 0 (by omega) (by omega)
   have:=kV hC hY X hw0 ops.length (j+1) (by omega) (n_);exact .inr ⟨by omega,by omega⟩
 ·rw[<-VI]
  refine⟨fun b y hy hT=> ?_,fun b b' r r' y y' hy hy' hl hl' hT hT' hr nL e=>I.good.inj b b' r r' y y' (rS b y hl hT hy) (rS b' y' hl' hT' hy') hl hl' hT hT' hr nL e,I.good.old⟩;by_cases hl:live y
  ·exact I.good.sat b y (rS b y hl hT hy) hT
  ·cases y<;>first|exact trivial|exact absurd trivial hl
 ·by_cases hex:∃(j:Nat) (o:Oper),ops[j]? =some o/\o.dst=some t
  ·obtain⟨j,o,ho,hd⟩:=hex
   have hj:=(g_ ho).1;have hx:ss[j]? =some (ss[j]'(by rw[X.len];exact hj)):=e_ _;obtain⟨g1,g2⟩:=bf.dst j o t ho hd;rw[Sj X hx ho hd g1 g2 ops.length hj (n_)];exact I.val j _ o t hx (hall j hj) ho hd
  ·have hno:∀(j:Nat) (o:Oper),ops[j]? =some o->o.dst≠some t:=fun j o ho hd=>hex ⟨j,o,ho,hd⟩
   rw[Kb X ops.length (n_) (fun j o _ ho=>hno j o ho),I.old t (fun j o ho _=>hno j o ho)];exact(ha.get t).mono I.ext
theorem Fj{L:Nat->Bool}{E:Nat}{h:Nat->Option bK}{ρ:Env}{a:Act}{w:World}(I:x5 ops ss S (A 0).sz qG T w0 a0 L E h ρ a w){k:Nat}{o:Oper}(ho:ops[k]? =some o)(hL:L k=false)(eX:∀j,(W ops k).testBit j=true->L j=true){t:Nat}(ht:t∈wI ops o):VR ρ ((A k).get t) (a.tmps.getD t undef):=by
 have _all:=(⟨hC,hY,hop,hw0,hp⟩:_/\_/\_/\_/\_)
 have hk:=(g_ ho).1;by_cases hex:∃(j:Nat) (q:Oper),ops[j]? =some q/\q.dst=some t
 ·obtain⟨j,q,hq,hd⟩:=hex
  have hj:=(g_ hq).1;obtain⟨g1,g2⟩:=bf.dst j q t hq hd;rcases bf.looks k j o q t ho hq ht hd with iE|iE
  ·have hjk:=bf.lt k o ho j iE
   have hx:ss[j]? =some (ss[j]'(by rw[X.len];exact hj)):=e_ _;rw[Sj X hx hq hd g1 g2 k hjk (by omega)];exact I.val j _ q t hx (eX j iE) hq hd
  ·have hkj:=bf.lt j q hq k iE
   rw[Kb X k (by omega) (fun i q' hi hq' X0=>by have:=g2 i q' hq' X0;omega),I.old t (fun i q' hq' hi X0=>by
    have:=g2 i q' hq' X0;subst this;rw[I.closed i k hi iE] at hL;cases hL)]
   exact(ha.get t).mono I.ext
 ·have hno:∀(j:Nat) (o:Oper),ops[j]? =some o->o.dst≠some t:=fun j o ho hd=>hex ⟨j,o,ho,hd⟩
  rw[Kb X k (by omega) (fun j o _ ho=>hno j o ho),I.old t (fun j o ho _=>hno j o ho)];exact(ha.get t).mono I.ext
theorem Fk{k:Nat}{o:Oper}(ho:ops[k]? =some o){L:Nat->Bool}(lH:∀k j,L k=true->(W ops k).testBit j=true->L j=true)(hall:∀e∈o.after,Region.binds .any e=true->L e.on=true):∀j,(W ops k).testBit j=true->L j=true:=by
 have _all:=(⟨hC,hY,hop,X,hw0,hp,bf,ha⟩:_/\_/\_/\_/\_/\_/\_/\_)
 intro j hj;obtain⟨e,he,hb,h1⟩:=(Sa ho).1 hj;rcases h1 with h1|h1
 ·rw[<-h1];exact hall e he hb
 ·refine lH e.on j (hall e he hb) ?_
  unfold W;rw[List.getD_eq_getElem?_getD] at h1⊢;by_cases hlt:e.on<k
  ·rwa [List.getElem?_take_of_lt hlt] at h1
  ·rw[List.getElem?_eq_none (by simp;omega)] at h1
   simp at h1
theorem Sl{r:Option Nat}{n:Nat}{Q:Exit->Act->World->Prop}(hQ:∀ρ a w,Post qG T (S 0) w0 ρ (S ops.length) w->dp ρ (A ops.length) a->Q .normal a w):
 ∀(u:Nat) (listed:Array Bool) (E:Nat) (h:Nat->Option bK) (ρ:Env) (a:Act) (w:World),listed.size=ops.length->(List.range ops.length).countP (fun j=> !listed.getD j true)=u->x5 ops ss S (A 0).sz qG T w0 a0 (fun j=>listed.getD j false) E h ρ a w->wpAnyIn (FW r) n P .any gf Q u listed a w
 |0,listed,E,h,ρ,a,w,hsz,hu,I=>by
  have hall:∀j,j<ops.length->listed.getD j true=true:=fun j hj=>by
   have:=List.countP_eq_zero.1 hu j (List.mem_range.2 hj);simpa using this
  have oa:∀j,j<ops.length->listed.getD j false=true:=fun j hj=>by
   have h1:=hall j hj;have h2:j<listed.size:=by omega
   simpa[h2] using h1
  obtain⟨g1,g2⟩:=Zp hC hY hop X hw0 hp bf ha I oa;refine⟨?_,hQ ρ a w g1 g2⟩;cases hr:Region.ready .any gf listed with
  |nil=>rfl
  |cons i rest=>
   obtain⟨fR,o,ho,_⟩:=mem_ready.1 (show i∈Region.ready .any gf listed by rw[hr];exact List.mem_cons_self ..)
   have hi:i<ops.length:=by
    have:=(Array.getElem?_eq_some_iff.1 ho).1;rw[size_eq hC hY hop X hw0 hp bf ha] at this;exact this
   rw[hall i hi] at fR;cases fR
 |u+1,listed,E,h,ρ,a,w,hsz,hu,I=>by
  have hex:∃j,j<ops.length/\listed.getD j true=false:=by
   have:0<(List.range ops.length).countP fun j=> !listed.getD j true:=by omega
   obtain⟨j,hj,hp⟩:=List.countP_pos_iff.1 this;exact⟨j,List.mem_range.1 hj,by simpa using hp⟩
  have Zq:∀j,j<ops.length->listed.getD j true=false->∃i,i∈Region.ready .any gf listed:=by
   intro j
   induction j using Nat.strongRecOn with
   |_ j ih=>
    intro hj fR;have ho:ops[j]? =some ops[j]:=e_ hj;by_cases hall:∀e∈ops[j].after,Region.binds .any e=true->listed.getD e.on false=true
    ·exact⟨j,mem_ready.2 ⟨fR,ops[j],by rw[Sk hC hY hop X hw0 hp bf ha];exact ho,hall⟩⟩
    ·simp only[Classical.not_forall] at hall
     obtain⟨e,he,hb,hno⟩:=hall;have iE:(W ops j).testBit e.on=true:=(Sa ho).2 ⟨e,he,hb,.inl rfl⟩;have hlt:=bf.lt j _ ho _ iE;refine ih e.on hlt (by omega) ?_;have hs:e.on<listed.size:=by omega
     simpa[hs] using hno
  refine⟨fun h0=> ?_,fun i hi=> ?_⟩
  ·obtain⟨j,hj,fR⟩:=hex
   obtain⟨i,hi⟩:=Zq j hj fR;rw[h0] at hi;cases hi
  ·obtain⟨fR,o,ho,hall⟩:=mem_ready.1 hi
   rw[Sk hC hY hop X hw0 hp bf ha] at ho;have F5:=(g_ ho).1;have hx:ss[i]? =some (ss[i]'(by rw[X.len];exact F5)):=e_ _;generalize (ss[i]'(by rw[X.len];exact F5))=x at hx
   have hLf:(fun j=>listed.getD j false) i=false:=by
    show listed.getD i false=false;have h2:i<listed.size:=by omega
    simpa[h2] using fR
   have eX:=Fk hC hY hop X hw0 hp bf ha ho (L:=fun j=>listed.getD j false) I.closed hall;have lG:=Sh hC hY X hw0 hp I hx hLf eX;obtain⟨q1,q2,q3,q4⟩:=X.at_ i x o hx ho
   have follow:∀ρ' w' v',Post ρ (TK S i x) x.p w ρ' x.q w'->VR ρ' x.v v'->wpAnyIn (FW r) n P .any gf Q u (listed.setIfInBounds i true) (a.put o.dst v') w':=by
    intro ρ' w' v' aM hv;obtain⟨E',h',I'⟩:=VH hC hY X hw0 hp I hx ho hLf eX (fun d hd=>bf.dst i o d ho hd) aM hv
    have hL:tO (fun j=>listed.getD j false) i=fun j=>(listed.setIfInBounds i true).getD j false:=by
     funext j;unfold tO;by_cases qZ:j=i
     ·subst qZ
      have h2:j<listed.size:=by omega
      simp[h2]
     ·rw[if_neg qZ]
      simp[Array.getD_eq_getD_getElem?,Ne.symm qZ]
    rw[hL] at I';refine Sl hQ u _ E' h' ρ' _ w' (by simpa using hsz) ?_ I'
    have Lr:∀m,i<m->(List.range m).countP (fun j=> !(listed.setIfInBounds i true).getD j true)+1=(List.range m).countP (fun j=> !listed.getD j true):=by
     intro m
     induction m with
     |zero=>intro h;omega
     |succ m ih=>
      intro him;rw[List.range_succ,List.countP_append,List.countP_append,List.countP_singleton,List.countP_singleton];by_cases hm:m=i
      ·subst hm
       have jbC:(List.range m).countP (fun j=> !(listed.setIfInBounds m true).getD j true)=(List.range m).countP (fun j=> !listed.getD j true):=by
        refine List.countP_congr (fun j hj=> ?_);have:j≠m:=by have:=List.mem_range.1 hj;omega
        simp[Array.getD_eq_getD_getElem?,Ne.symm this]
       have h2:m<listed.size:=by omega
       rw[jbC,fR];simp[h2]
      ·have:=ih (by omega)
       have e:(listed.setIfInBounds i true).getD m true=listed.getD m true:=by
        simp[Array.getD_eq_getD_getElem?,Ne.symm hm]
       rw[e];omega
    have:=Lr ops.length F5;omega
   unfold wpOpIn;rw[Sk hC hY hop X hw0 hp bf ha,ho]
   have mW:∀b,eK ops o (A i)=some b->Region.wanted o (yielded gf a.tmps)=b:=fun b hb=>zI hb hop (fun j c d hg hd=>Fj hC hY hop X hw0 hp bf ha I ho hLf eX (by
    unfold wI;rw[hg];refine List.mem_append_right _ ?_;show d∈(ops[j]?.bind (fun x=>x.dst)).toList;rw[hd];exact List.mem_singleton.2 rfl))
   rcases q4 with⟨q5,q6⟩|⟨q5,q6,q7⟩
   ·simp only[mW true q5,if_true]
    refine zH hC hY q6 lG (fun y hy=> ?_) (fun ρ' w' aM v' hv=>follow ρ' w' v' aM hv);cases y with
    |tmp t=>
     refine Fj hC hY hop X hw0 hp bf ha I ho hLf eX ?_;unfold wI;refine List.mem_append_left _ (List.mem_filterMap.2 ⟨.tmp t,Array.mem_toList_iff.2 hy,rfl⟩)
    |const v=>exact BH 3 v
    |global g=>exact .top _
    |func f=>exact .func f [] [] #[] #[] .nil .nil
   ·simp only[mW false q5,Bool.false_eq_true,if_false]
    refine⟨fun _ _=>trivial,?_⟩;refine follow ρ w undef ?_ (by rw[q6];exact mV);rw[q7] at lG⊢;exact Post.refl lG
end
section
variable {P:Program} {C:Callee} {Y:eJ} {ρ:Env} {T:Nat->Nat->Prop} {s s':St} {w:World} {aa:bI} {a:Act}
theorem sN{R:Bool}{ops:List Oper}{draw:Bool}{x:OR}(hC:dN P C)(hY:fZ P Y)(bf:ki s)(h:rL P C Y R ops draw aa s=x)(hs:x.st=some s'):aF s s':=by
 unfold rL at h;split at h
 ·split at h
  ·cases x with
   |no=>cases hs
   |xM xZ v s1=>
    exfalso
    have:∀(l:List Oper) ws rs aa s,cO P C Y ops l ws rs aa s≠.xM xZ v s1:=by
     intro l
     induction l with
     |nil=>intro ws rs aa s h;unfold cO at h;cases h
     |cons o l ih=>
      intro ws rs aa s h;cases ws with
      |nil=>unfold cO at h;cases h
      |cons w ws=>
       unfold cO at h;split at h
       ·split at h
        ·split at h
         ·cases h
         ·exact ih _ _ _ _ h
        ·cases h
       ·exact ih _ _ _ _ h
       ·cases h
    exact this _ _ _ _ _ h
   |ok xZ s1=>
    cases hs;obtain⟨ss,A,S,X,h1,h2,h3,h4⟩:=zN h;subst h2 h4
    have key:∀k,k<=ops.length->aF (S 0) (S k):=by
     intro k
     induction k with
     |zero=>exact fun _=>aF.refl _
     |succ k ih=>
      intro hk;have m1:=ih (by omega);obtain⟨x,o,hx,_⟩:=mY hC hY X bf (show k<ops.length by omega);have hwk:=j7 hC hY X bf k (by omega);obtain⟨m,p1,p2,p3,p4,p5,p6⟩:=eN hC hY X bf hx hwk;have hwp:ki x.p:=by intro b hb;rw[p1];exact hwk b (by omega)
      refine m1.trans ⟨by have:=m.n;omega,fun e he=>by rw[p6];exact List.mem_append_right _ he,fun _=>j7 hC hY X bf (k+1) hk,fun _ b y hy hn=> ?_,fun _ b y hb hy hl=> ?_,fun _ e he=> ?_,fun _ hb e he=> ?_⟩
      ·rw[p4]
       have:=m.keep hwp b y (by rw[p1];exact hy) (fun hm=>hn (by rw[p6];exact List.mem_append_left _ hm));exact fq.mono (fun e he=>by rw[p6];exact List.mem_append_left _ he) this
      ·rw[p4] at hy
       obtain⟨z,hz,hzl⟩:=m.lv hwp b y (by omega) hy hl;exact⟨z,by rw[<-p1];exact hz,hzl⟩
      ·rw[p6] at he
       rcases List.mem_append.1 he with he|he
       ·rcases m.lw hwp e he with h5|h5|⟨z,h5,h6⟩
        ·rw[p3] at h5;cases h5
        ·exact .inr (.inl (by omega))
        ·exact .inr (.inr ⟨z,by rw[<-p1];exact h5,h6⟩)
       ·exact .inl he
      ·rw[p6] at he
       rcases List.mem_append.1 he with he|he
       ·have:=m.lb hwp (by rw[p3];simp) e he
        omega
       ·have:=hb e he
        have:=m.n;omega
    exact key _ (n_)
  ·subst h;cases hs
 ·exact jw hC hY _ bf h hs
theorem zQ{R:Bool}{id:Nat}{gf:Array Oper}{draw:Bool}{x:OR}(hm:P.follows .mixedOrders=true)(hC:dN P C)(hY:fZ P Y){r:Option Nat}(hr:R=false->r=none){n:Nat}{Q:Exit->Act->World->Prop}(h:rL P C Y R gf.toList draw aa s=x)(hs:x.st=some s')(hp:Pre ρ T s s' w)(ha:dp ρ aa a)(hk:Zg Q ρ T s w x):(Code.region id gf draw).wpIn (FW r) n P Q a w:=by
 unfold rL at h;split at h
 ·rename_i hd
  subst hd;split at h
  ·rename_i jbD
   cases x with
   |no=>cases hs
   |xM xZ v s1=>
    exfalso
    have:∀(l:List Oper) ws rs aa s,cO P C Y gf.toList l ws rs aa s≠.xM xZ v s1:=by
     intro l
     induction l with
     |nil=>intro ws rs aa s h;unfold cO at h;cases h
     |cons o l ih=>
      intro ws rs aa s h;cases ws with
      |nil=>unfold cO at h;cases h
      |cons w ws=>
       unfold cO at h;split at h
       ·split at h
        ·split at h
         ·cases h
         ·exact ih _ _ _ _ h
        ·cases h
       ·exact ih _ _ _ _ h
       ·cases h
    exact this _ _ _ _ _ h
   |ok xZ s1=>
    cases hs;obtain⟨ss,A,S,X,h1,h2,h3,h4⟩:=zN h;subst h1 h2 h3 h4;have hp':Pre ρ T (S 0) (S gf.toList.length) {w with drawn:=w.drawn+1}:=⟨zj hp.good rfl ⟨rfl,rfl,rfl,rfl⟩,hp.o8,hp.fresh,hp.wf,hp.tn⟩
    refine wpIn_region_any hm ?_;have:=Sl hC hY rfl X hp.wf hp' (W7 jbD) ha (r:=r) (n:=n) (Q:=Q) (fun ρ' a' w' aM ha'=>hk ρ' a' w' ⟨aM.ext,aM.new,aM.fr,aM.good,⟨aM.fG.os,aM.fG.tape,aM.fG.output,aM.fG.size,aM.fG.block,aM.fG.cells⟩⟩ ha') gf.size (Array.replicate gf.size false) 0 (S 0).heap.get ρ a {w with drawn:=w.drawn+1} (by simp) ?_ ?_
    ·exact this
    ·have:∀j∈List.range gf.toList.length,(!(Array.replicate gf.size false).getD j true)=true:=fun j hj=>by
      have DC:=List.mem_range.1 hj;rw[Array.length_toList] at DC;simp[Array.getD_eq_getD_getElem?,DC]
     rw[List.countP_eq_length.2 this];simp
    ·have e:(fun j=>(Array.replicate gf.size false).getD j false)=fun _=>false:=by
      funext j;simp[Array.getD_eq_getD_getElem?,Array.getElem?_replicate];split<;>rfl
     rw[e];exact VL hC hY rfl X hp.wf hp' (W7 jbD) ha
  ·subst h;cases hs
 ·rename_i hd
  have:draw=false:=by simpa using hd
  subst this;exact wpIn_region_list (rR rfl hC hY hr _ h hs hp ha hk)
end
def nJ(F:Fence)(n:Nat)(P:Program)(c:Code)(Q:Exit->Act->World->Prop):Nat->Nat->Act->World->Prop
 |0,_,_,_=>False
 |m+1,l,a,w=>∃rest,findLabel c l=some rest/\rest.wpIn F n P (fun e a w=>match e with| .goto l=>nJ F n P c Q m l a w|e=>Q e a w) a w
theorem kW{F:Fence}{n:Nat}{P:Program}{c:Code}{Q Q':Exit->Act->World->Prop}(hq:∀e a w,Q e a w->Q' e a w):∀m l a w,nJ F n P c Q m l a w->nJ F n P c Q' m l a w
 |0,_,_,_,h=>h
 |m+1,l,a,w,⟨rest,h1,h2⟩=>⟨rest,h1,wpIn_mono h2 (fun e a w h=>by
   cases e<;>first|exact kW hq m _ _ _ h|exact hq _ _ _ h)⟩
theorem dO{P:Program}{b:Frame}{a:Act}{k:List Item}{cs:List Frame}{w:World}{c:Code}:step P (lone (b.atR a (.code (.scope c)::k)) cs w)= .next (lone (b.atR a (.code c:: .inScope c::k)) cs w):=
 step_lone_go (by simp[stepG,stepG.exec,Frame.atR])
theorem oA{P:Program}{b:Frame}{a:Act}{k:List Item}{cs:List Frame}{w:World}{c:Code}:step P (lone (b.atR a (.inScope c::k)) cs w)= .next (lone (b.atR a k) cs w):=
 step_lone_go (by simp[stepG,stepG.exec,Frame.atR])
theorem j8{F:Fence}{n:Nat}{P:Program}{c:Code}{Q:Exit->Act->World->Prop}{a:Act}{w:World}(h:c.wpIn F n P (fun e a w=>match e with| .goto l=>∃m,nJ F n P c Q m l a w|e=>Q e a w) a w):(Code.scope c).wpIn F n P Q a w:=by
 intro b k cs hro hb hr
 have key:∀m l a w,nJ F n P c Q m l a w->∃rest,findLabel c l=some rest/\∃e a' w',Q e a' w'/\ArrivesIn (Machine.fenced P F) P (lone (b.atR a (.code rest:: .inScope c::k)) cs w) b k cs e a' w':=by
  intro m
  induction m with
  |zero=>intro l a w h;exact h.elim
  |succ m ih=>
   intro l a w h;obtain⟨rest,hf,h⟩:=h;refine⟨rest,hf,?_⟩;obtain⟨e,a₁,w₁,hq,po⟩:=h b (.inScope c::k) cs hro hb hr;cases e with
   |normal=>exact⟨.normal,a₁,w₁,hq,StepsIn.trans po (.one (fenced_calm hb hr rfl) oA)⟩
   |exit id=>
    have hx:exitTo id (.inScope c::k)=exitTo id k:=by simp[exitTo]
    exact⟨.exit id,a₁,w₁,hq,fun k' hk=>po.1 k' (by rw[hx];exact hk),fun nL hk=>po.2 nL (by rw[hx];exact hk)⟩
   |goto l'=>
    obtain⟨rest',hf',e₂,a₂,w₂,Sm,Ch⟩:=ih l' a₁ w₁ hq;exact⟨e₂,a₂,w₂,Sm,.of_steps (po.1 (.code rest':: .inScope c::k) (by simp[gotoIn,hf'])) Ch⟩
   |ret=>exact⟨_,a₁,w₁,hq,po⟩
   |panic ch=>exact⟨_,a₁,w₁,hq,po⟩
   |outgrown=>exact⟨_,a₁,w₁,hq,po⟩
 have h0:(lone (b.atR a (.code (.scope c)::k)) cs w).fenced P F:=fenced_calm hb hr rfl;obtain⟨e,a₁,w₁,hq,po⟩:=h b (.inScope c::k) cs hro hb hr;cases e with
 |normal=>exact⟨.normal,a₁,w₁,hq,.head h0 dO (StepsIn.trans po (.one (fenced_calm hb hr rfl) oA))⟩
 |exit id=>
  have hx:exitTo id (.inScope c::k)=exitTo id k:=by simp[exitTo]
  exact⟨.exit id,a₁,w₁,hq,fun k' hk=> .head h0 dO (po.1 k' (by rw[hx];exact hk)),fun nL hk=>let⟨k₁,g1,g2⟩:=po.2 nL (by rw[hx];exact hk);⟨k₁,g1,.head h0 dO g2⟩⟩
 |goto l'=>
  obtain⟨m,hm⟩:=hq;obtain⟨rest',hf',e₂,a₂,w₂,Sm,Ch⟩:=key m l' a₁ w₁ hm;exact⟨e₂,a₂,w₂,Sm,.of_steps (.head h0 dO (po.1 (.code rest':: .inScope c::k) (by simp[gotoIn,hf']))) Ch⟩
 |ret=>exact⟨_,a₁,w₁,hq,.of_steps (.one h0 dO) po⟩
 |panic ch=>exact⟨_,a₁,w₁,hq,.of_steps (.one h0 dO) po⟩
 |outgrown=>exact⟨_,a₁,w₁,hq,.of_steps (.one h0 dO) po⟩
def Zr(ρ:Env):lq->Exit->Prop
 | .normal,.normal=>True
 | .exit i,.exit j=>i=j
 | .goto i,.goto j=>i=j
 | .ret,.ret=>True
 | .panic v,.panic ch=>∃v',ch=[{v:=v',recovered:=false}]/\VR ρ v v'
 |_,_=>False
def rT(ρ:Env)(T:Nat->Nat->Prop)(s:St)(w:World)(e:lq)(lJ:bI)(s':St)(E:Exit)(a':Act)(w':World):Prop:=∃ρ',Post ρ T s w ρ' s' w'/\dp ρ' lJ a'/\Zr ρ' e E
theorem rT.after{ρ iI:Env}{T:Nat->Nat->Prop}{s s1 s2:St}{w w1 w2:World}{e:lq}{aa:bI}{E:Exit}{a:Act}(m1:aF s s1)(m2:aF s1 s2)(h:Post ρ T s w iI s1 w1)(k:rT iI (Tn T s.n s1.n) s1 w1 e aa s2 E a w2):rT ρ T s w e aa s2 E a w2:=
 let⟨ρ',g1,g2,g3⟩:=k;⟨ρ',Post.trans m1 m2 h g1,g2,g3⟩
abbrev Ev:=Code->bI->St->Option (lq×bI×St)
def EvS(P:Program)(E:Ev)(R:Bool):Prop:=∀c aa s e lJ s',E c aa s=some (e,lJ,s')->ki s->aF s s'/\
 ∀ρ T w a r n,(R=false->r=none)->Pre ρ T s s' w->dp ρ aa a->c.wpIn (FW r) n P (rT ρ T s w e lJ s') a w
def JuS(P:Program)(J:Code->Nat->bI->St->Option (lq×bI×St))(R:Bool)(m:Nat):Prop:=∀c l aa s e lJ s',J c l aa s=some (e,lJ,s')->ki s->aF s s'/\
 ∀ρ T w a r n,(R=false->r=none)->Pre ρ T s s' w->dp ρ aa a->nJ (FW r) n P c (rT ρ T s w e lJ s') m l a w
def LoS(P:Program)(E:Ev)(R:Bool)(m:Nat):Prop:=∀c aa s e lJ s',E (.loop c) aa s=some (e,lJ,s')->ki s->aF s s'/\
 ∀ρ T w a r n,(R=false->r=none)->Pre ρ T s s' w->dp ρ aa a->Code.roundsIn (FW r) n P c (rT ρ T s w e lJ s') m a w
theorem sO{F:Fence}{n:Nat}{P:Program}{c:Code}{Q Q':Exit->Act->World->Prop}(hq:∀e a w,Q e a w->Q' e a w):∀m a w,Code.roundsIn F n P c Q m a w->Code.roundsIn F n P c Q' m a w
 |0,_,_,h=>h
 |m+1,a,w,h=>wpIn_mono h (fun e a w h=>by
   cases e<;>first|exact sO hq m _ _ h|exact hq _ _ _ h)
section
variable {P:Program} {ρ:Env} {T:Nat->Nat->Prop} {s s':St} {w w':World} {aa lJ:bI} {a:Act} {E:Ev} {R:Bool}
theorem VM(w:World){B:Nat}{x:Obj}(o:Obj)(h:w.heap[B]? =some x):Alt w (w.putObj B o) B o:=
 ⟨rfl,rfl,rfl,World.putObj_size,World.putObj_heap_same (jb h),fun _ hB=>World.putObj_heap_other hB⟩
end
section
variable {P:Program} {C:Callee}
theorem Kc{ρ:Env}{e:lq}{E:Exit}(h:Zr ρ e E)(he:e≠.normal):E≠.normal:=by
 intro hE;subst hE;cases e<;>first|exact he rfl|exact h
theorem Kd{ρ:Env}{e:lq}{l:Nat}(h:Zr ρ e (.goto l)):e= .goto l:=by
 cases e<;>first|exact h.elim|(have:=h;simp only[Zr] at this;rw[this])
theorem VN{ρ:Env}{e:lq}{l:Nat}(h:Zr ρ e (.exit l)):e= .exit l:=by
 cases e<;>first|exact h.elim|(have:=h;simp only[Zr] at this;rw[this])
theorem Add.alloc(w:World)(o:Obj):Add w (w.alloc o) o:=Add.push w o
theorem Sn(hm:P.follows .mixedOrders=true)(hC:dN P C):∀f,(∀R,EvS P (ev P C f R) R)/\(∀R,JuS P (jump P C f R) R f)/\∀R,LoS P (ev P C f R) R f
 |0=>⟨fun R c aa s e lJ s' h=>by simp[ev] at h,fun R c l aa s e lJ s' h=>by simp[jump] at h,fun R c aa s e lJ s' h=>by simp[ev] at h⟩
 |f+1=>by
  obtain⟨Nk,ihJ,ihL⟩:=Sn hm hC f
  have hL:∀R,LoS P (ev P C (f+1) R) R (f+1):=by
   intro R c aa s e lJ s' h bf;unfold ev at h;simp only at h;split at h
   ·rename_i xZ s1 h1
    obtain⟨m1,k1⟩:=Nk R _ _ _ _ _ _ h1 bf;obtain⟨m2,k2⟩:=ihL R _ _ _ _ _ _ h (m1.wf bf);refine⟨m1.trans m2,fun ρ T w a r n hr hp ha=> ?_⟩;rw[roundsIn_succ];refine wpIn_mono (k1 ρ T w a r n hr (hp.first m2) ha) ?_;rintro E1 a1 w1 ⟨iI,g1,g2,g3⟩;cases E1<;>try exact g3.elim
    exact sO (fun E2 a2 w2 h2=>h2.after m1 m2 g1) _ _ _ (k2 iI _ w1 a1 r n hr (hp.next m1 m2 g1) g2)
   ·rename_i hne
    obtain⟨m1,k1⟩:=Nk R _ _ _ _ _ _ h bf;refine⟨m1,fun ρ T w a r n hr hp ha=> ?_⟩;rw[roundsIn_succ];refine wpIn_mono (k1 ρ T w a r n hr hp ha) ?_;rintro E1 a1 w1 ⟨iI,g1,g2,g3⟩;have hen:e≠.normal:=fun he=>hne lJ s' (by rw[h,he]);cases E1<;>first|exact absurd rfl (Kc g3 hen)|exact⟨iI,g1,g2,g3⟩
  refine⟨fun R c aa s e lJ s' h bf=> ?_,fun R c l aa s e lJ s' h bf=> ?_,hL⟩
  ·unfold ev at h
   split at h
   ·
    cases h;exact⟨aF.refl _,fun ρ T w a r n hr hp ha=>wpIn_skip ⟨ρ,Post.refl hp,ha,trivial⟩⟩
   ·cases h
    exact⟨aF.refl _,fun ρ T w a r n hr hp ha=>wpIn_label ⟨ρ,Post.refl hp,ha,trivial⟩⟩
   ·
    rename_i id ops draw;have hY:fZ P (fun _ _ _=>none):=fun _ _ _ _ _ h _=>by cases h
    cases hx:rL P C (fun _ _ _=>none) R ops.toList draw aa s with
    |no=>rw[hx] at h;cases h
    |ok xZ s1=>
     rw[hx] at h;cases h;exact⟨sN hC hY bf hx rfl,fun ρ T w a r n hr hp ha=>zQ hm hC hY hr hx rfl hp ha (fun ρ' a' w' h1 h2=>⟨ρ',h1,h2,trivial⟩)⟩
    |xM xZ v s1=>
     rw[hx] at h;cases h;exact⟨sN hC hY bf hx rfl,fun ρ T w a r n hr hp ha=>zQ hm hC hY hr hx rfl hp ha (fun ρ' a' w' v' h1 h2 h3=>⟨ρ',h1,h2,v',rfl,h3⟩)⟩
   ·
    rename_i x y;split at h
    ·rename_i xZ s1 h1
     obtain⟨m1,k1⟩:=Nk R _ _ _ _ _ _ h1 bf;obtain⟨m2,k2⟩:=Nk R _ _ _ _ _ _ h (m1.wf bf);refine⟨m1.trans m2,fun ρ T w a r n hr hp ha=>wpIn_seq (wpIn_mono (k1 ρ T w a r n hr (hp.first m2) ha) ?_)⟩;rintro E1 a1 w1 ⟨iI,g1,g2,g3⟩;cases E1<;>try exact g3.elim
     exact wpIn_mono (k2 iI _ w1 a1 r n hr (hp.next m1 m2 g1) g2) (fun E2 a2 w2 h2=>h2.after m1 m2 g1)
    ·rename_i hne
     obtain⟨m1,k1⟩:=Nk R _ _ _ _ _ _ h bf;refine⟨m1,fun ρ T w a r n hr hp ha=>wpIn_seq (wpIn_mono (k1 ρ T w a r n hr hp ha) ?_)⟩;rintro E1 a1 w1 ⟨iI,g1,g2,g3⟩;have hen:e≠.normal:=fun he=>hne lJ s' (by rw[h,he]);cases E1<;>first|exact absurd rfl (Kc g3 hen)|exact⟨iI,g1,g2,g3⟩
   ·
    rename_i c x y;split at h
    ·rename_i hc
     obtain⟨m1,k1⟩:=Nk R _ _ _ _ _ _ h bf;refine⟨m1,fun ρ T w a r n hr hp ha=> ?_⟩;have:=ha.eval c;rw[hc] at this;generalize hcc:a.eval c=c' at this;cases this;exact wpIn_cond_true hcc (k1 ρ T w a r n hr hp ha)
    ·rename_i hc
     obtain⟨m1,k1⟩:=Nk R _ _ _ _ _ _ h bf;refine⟨m1,fun ρ T w a r n hr hp ha=> ?_⟩;have:=ha.eval c;rw[hc] at this;generalize hcc:a.eval c=c' at this;cases this;exact wpIn_cond_false hcc (k1 ρ T w a r n hr hp ha)
    ·cases h
   ·
    rename_i id c;split at h
    ·rename_i j xZ s1 h1
     cases h;obtain⟨m1,k1⟩:=Nk R _ _ _ _ _ _ h1 bf;refine⟨m1,fun ρ T w a r n hr hp ha=>wpIn_block (wpIn_mono (k1 ρ T w a r n hr hp ha) ?_)⟩;rintro E1 a1 w1 ⟨iI,g1,g2,g3⟩;cases E1<;>try exact g3.elim
     have hj:j=_:=g3;subst hj;by_cases hid:j=id
     ·simp only[Exit.inBlock,hid,if_true]
      exact⟨iI,g1,g2,trivial⟩
     ·simp only[Exit.inBlock,hid,if_false]
      exact⟨iI,g1,g2,rfl⟩
    ·rename_i hne
     obtain⟨m1,k1⟩:=Nk R _ _ _ _ _ _ h bf;refine⟨m1,fun ρ T w a r n hr hp ha=>wpIn_block (wpIn_mono (k1 ρ T w a r n hr hp ha) ?_)⟩;rintro E1 a1 w1 ⟨iI,g1,g2,g3⟩;cases E1<;>try exact⟨iI,g1,g2,g3⟩
     exact absurd (by rw[h,VN g3]) (hne _ lJ s')
   ·
    rename_i c;obtain⟨m1,k1⟩:=hL R c aa s e lJ s' (by unfold ev;exact h) bf;exact⟨m1,fun ρ T w a r n hr hp ha=>wpIn_loop_rounds _ (k1 ρ T w a r n hr hp ha)⟩
   ·cases h;exact⟨aF.refl _,fun ρ T w a r n hr hp ha=>wpIn_exit ⟨ρ,Post.refl hp,ha,rfl⟩⟩
   ·cases h;exact⟨aF.refl _,fun ρ T w a r n hr hp ha=>wpIn_goto ⟨ρ,Post.refl hp,ha,rfl⟩⟩
   ·cases h;exact⟨aF.refl _,fun ρ T w a r n hr hp ha=>wpIn_ret ⟨ρ,Post.refl hp,ha,trivial⟩⟩
   ·
    rename_i c;split at h
    ·rename_i l xZ s1 h1
     obtain⟨m1,k1⟩:=Nk R _ _ _ _ _ _ h1 bf;obtain⟨m2,k2⟩:=ihJ R _ _ _ _ _ _ _ h (m1.wf bf);refine⟨m1.trans m2,fun ρ T w a r n hr hp ha=>j8 (wpIn_mono (k1 ρ T w a r n hr (hp.first m2) ha) ?_)⟩;rintro E1 a1 w1 ⟨iI,g1,g2,g3⟩;cases E1<;>try exact g3.elim
     have hl:l=_:=g3;subst hl;exact⟨_,kW (fun E2 a2 w2 h2=>h2.after m1 m2 g1) _ _ _ _ (k2 iI _ w1 a1 r n hr (hp.next m1 m2 g1) g2)⟩
    ·rename_i hne
     obtain⟨m1,k1⟩:=Nk R _ _ _ _ _ _ h bf;refine⟨m1,fun ρ T w a r n hr hp ha=>j8 (wpIn_mono (k1 ρ T w a r n hr hp ha) ?_)⟩;rintro E1 a1 w1 ⟨iI,g1,g2,g3⟩;cases E1<;>try exact⟨iI,g1,g2,g3⟩
     exact absurd (by rw[h,Kd g3]) (hne _ lJ s')
   ·cases h
  ·unfold jump at h
   split at h
   ·rename_i rest hf
    split at h
    ·rename_i l' xZ s1 h1
     obtain⟨m1,k1⟩:=Nk R _ _ _ _ _ _ h1 bf;obtain⟨m2,k2⟩:=ihJ R _ _ _ _ _ _ _ h (m1.wf bf);refine⟨m1.trans m2,fun ρ T w a r n hr hp ha=>⟨rest,hf,wpIn_mono (k1 ρ T w a r n hr (hp.first m2) ha) ?_⟩⟩;rintro E1 a1 w1 ⟨iI,g1,g2,g3⟩;cases E1<;>try exact g3.elim
     have hl:l'=_:=g3;subst hl;exact kW (fun E2 a2 w2 h2=>h2.after m1 m2 g1) _ _ _ _ (k2 iI _ w1 a1 r n hr (hp.next m1 m2 g1) g2)
    ·rename_i hne
     obtain⟨m1,k1⟩:=Nk R _ _ _ _ _ _ h bf;refine⟨m1,fun ρ T w a r n hr hp ha=>⟨rest,hf,wpIn_mono (k1 ρ T w a r n hr hp ha) ?_⟩⟩;rintro E1 a1 w1 ⟨iI,g1,g2,g3⟩;cases E1<;>try exact⟨iI,g1,g2,g3⟩
     exact absurd (by rw[h,Kd g3]) (hne _ lJ s')
   ·cases h
end
end Go.Proofs.YtpohlhkgbmdieaaGreatDoor.Rk
