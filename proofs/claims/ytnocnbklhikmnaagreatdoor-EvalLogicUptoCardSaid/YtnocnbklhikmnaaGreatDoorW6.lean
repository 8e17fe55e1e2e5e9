/- Part 6 of the proof. -/
import Derived.Test.YtnocnbklhikmnaaGreatDoorW3
import Derived.Test.YtnocnbklhikmnaaGreatDoorW4
import Derived.Test.YtnocnbklhikmnaaGreatDoorW5
import Derived.Lib.AppendStr
import Derived.ScopeJumps
import Derived.WalkMore
set_option linter.unusedVariables false
set_option maxRecDepth 1000000
set_option maxHeartbeats 16000000
namespace Go.Proofs.YtnocnbklhikmnaaGreatDoor.Rk
open Go
theorem BR.mono{ρ ρ':Env}{T T':Nat->Prop}{b:Nat}{w w':World}{x:ABlk}(h:BR ρ T b w x)(hr:ρ.le ρ')(hT:∀i,T' i->T i)(hw:∀r,ρ b=some r->w'.heap[r.blk]? =w.heap[r.blk]?):BR ρ' T' b w' x:=by
 cases x with
 |cells t cs=>
  obtain⟨r,c,fr,h1,h2,h3,h4,h5,h6⟩:=h;exact⟨r,c,fr,hr _ _ h1,(hw r h1).trans h2,h3,h4,h5,fun i a hi ht=>let⟨v,hv,hR⟩:=h6 i a hi (hT i ht);⟨v,hv,hR.mono hr⟩⟩
 |map es clock=>
  obtain⟨r,es',h1,h2,h3,h4,h5⟩:=h;exact⟨r,es',hr _ _ h1,(hw r h1).trans h2,VRL.mono hr h3,VRL.mono hr h4,h5⟩
 |miter m since seen last=>
  obtain⟨r,m',h1,h2,h3,h4⟩:=h;refine⟨r,m',hr _ _ h1,h2,(hw r h1).trans h3,?_⟩;cases m with
  |none=>exact h4
  |some m=>obtain⟨q,hq,e⟩:=h4;exact⟨q,hr _ _ hq,e⟩
 |siter l pos=>
  obtain⟨r,h1,h2,h3,h4⟩:=h;exact⟨r,hr _ _ h1,h2,(hw r h1).trans h3,h4⟩
 |pmap es=>
  obtain⟨r,es',el,clock,h1,h2,h3,h4,h5⟩:=h;exact⟨r,es',el,clock,hr _ _ h1,(hw r h1).trans h2,h3,VRL.mono hr h4,VRL.mono hr h5⟩
 |defd=>
  obtain⟨r,h1,h2⟩:=h;exact⟨r,hr _ _ h1,(hw r h1).trans h2⟩
 |loop ready p sz tmps ps assign body d=>
  obtain⟨r,fn,tmps',q,h1,hq,h2,h3,h4⟩:=h;exact⟨r,fn,tmps',q,hr _ _ h1,hr _ _ hq,(hw r h1).trans h2,h3,fun t=>(h4 t).mono hr⟩
 |dead=>trivial
theorem BR.where_{ρ:Env}{T:Nat->Prop}{b:Nat}{w:World}{x:ABlk}(h:BR ρ T b w x)(hl:live x):∃r o,ρ b=some r/\w.heap[r.blk]? =some o:=by
 cases x with
 |cells t cs=>obtain⟨r,c,fr,h1,h2,_⟩:=h;exact⟨r,_,h1,h2⟩
 |map es clock=>obtain⟨r,es',h1,h2,_⟩:=h;exact⟨r,_,h1,h2⟩
 |miter m since seen last=>obtain⟨r,m',h1,_,h2,_⟩:=h;exact⟨r,_,h1,h2⟩
 |siter l pos=>obtain⟨r,h1,_,h2,_⟩:=h;exact⟨r,_,h1,h2⟩
 |pmap es=>obtain⟨r,es',el,clock,h1,h2,_⟩:=h;exact⟨r,_,h1,h2⟩
 |defd=>obtain⟨r,h1,h2⟩:=h;exact⟨r,_,h1,h2⟩
 |loop ready p sz tmps ps assign body d=>obtain⟨r,fn,tmps',q,h1,hq,h2,_⟩:=h;exact⟨r,_,h1,h2⟩
 |dead=>exact hl.elim
theorem Tn_same(T:Nat->Nat->Prop)(n:Nat):Tn T n n=T:=by
 funext b i;unfold Tn;exact propext ⟨fun h=>h.elim id (fun h=>by omega),.inl⟩
structure Still(w w':World):Prop where
 os:w'.os=w.os
 tape:w'.tape=w.tape
 output:w'.output=w.output
 heap:w'.heap=w.heap
theorem Still.refl(w:World):Still w w:=⟨rfl,rfl,rfl,rfl⟩
structure Alt(w w':World)(B:Nat)(o:Obj):Prop where
 os:w'.os=w.os
 tape:w'.tape=w.tape
 output:w'.output=w.output
 size:w'.heap.size=w.heap.size
 here:w'.heap[B]? =some o
 other:∀B',B'≠B->w'.heap[B']? =w.heap[B']?
structure Add(w w':World)(o:Obj):Prop where
 os:w'.os=w.os
 tape:w'.tape=w.tape
 output:w'.output=w.output
 size:w'.heap.size=w.heap.size+1
 here:w'.heap[w.heap.size]? =some o
 other:∀B,B<w.heap.size->w'.heap[B]? =w.heap[B]?
theorem Add.push(w:World)(o:Obj):Add w {w with heap:=w.heap.push o} o:=
 ⟨rfl,rfl,rfl,by simp,by simp,fun B h=>by simp[Array.getElem?_push];omega⟩
theorem Add.drew{w w':World}{o:Obj}(h:Add w w' o)(n:Nat):Add w {w' with drawn:=n} o:=⟨h.os,h.tape,h.output,h.size,h.here,h.other⟩
section
variable {ρ:Env} {T:Nat->Nat->Prop} {s s':St} {w w':World}
theorem good_same{s1:St}(h:Good ρ T s.heap.get w)(hs:s1.heap=s.heap)(hw:Still w w'):Good ρ T s1.heap.get w':=
 ⟨fun b x hb hT=>by rw[hs] at hb;exact(h.sat b x hb hT).mono (Env.le_refl ρ) (fun _ h=>h) (fun r _=>by rw[hw.heap]),fun b b' r r' x x' hx hx' hl hl' ht ht' hr hr' e=>by rw[hs] at hx hx';exact h.inj b b' r r' x x' hx hx' hl hl' ht ht' hr hr' e,fun b r hb=>by rw[hw.heap];exact h.old b r hb⟩
theorem Post.same(h:Good ρ T s.heap.get w)(hs:s'.heap=s.heap)(hn:s'.n=s.n)(hw:Still w w'):Post ρ T s w ρ s' w':=
 ⟨Env.le_refl ρ,fun b r h=> .inl h,fun b r h1 h2 _=>(nomatch (h1.symm.trans h2)),by rw[hn,Tn_same];exact good_same h hs hw,Unch.refl _ _ _ _ hw.os hw.tape hw.output hw.heap⟩
def Env.add(ρ:Env)(b:Nat)(r:RB):Env:=fun x=>if x=b then some r else ρ x
theorem Env.add_le{b:Nat}{r:RB}(h:ρ b=none):ρ.le (ρ.add b r):=fun x q hq=>by
 unfold Env.add;by_cases hx:x=b
 ·subst hx;rw[h] at hq;cases hq
 ·rw[if_neg hx];exact hq
theorem Env.add_self(b:Nat)(r:RB):(ρ.add b r) b=some r:=if_pos rfl
theorem Env.add_ne{b x:Nat}(r:RB)(h:x≠b):(ρ.add b r) x=ρ x:=if_neg h
theorem get_new(s:St)(x:ABlk)(b:Nat):(s.new x).heap.get b=if b=s.n then some x else s.heap.get b:=Tr.get_set _ _ _ _
theorem get_put(s:St)(c:Nat)(x:ABlk)(b:Nat):(s.put c x).heap.get b=if b=c then some x else s.heap.get b:=Tr.get_set _ _ _ _
theorem lt_wf{s:St}{b:Nat}{x:ABlk}(hw:WfS s)(h:s.heap.get b=some x):b<s.n:=by
 rcases Nat.lt_or_ge b s.n with h1|h1
 ·exact h1
 ·rw[hw b h1] at h;cases h
theorem Mono.new(s:St)(x:ABlk):Mono s (s.new x):=
 ⟨Nat.le_succ _,fun _ h=>h,fun h b hb=>by
  have hb':s.n+1<=b:=hb;rw[get_new,if_neg (by omega)];exact h b (by omega),fun hw b y h _=>by
  have:b≠s.n:=fun e=>by rw[hw b (by omega)] at h;cases h
  rw[get_new,if_neg this,h];exact Keep.refl _ _ _,fun _ b x' hb h hl=>by
  rw[get_new,if_neg (by omega)] at h;exact⟨x',h,hl⟩,fun _ _ h=> .inl h,fun _ hb e he=>Nat.lt_succ_of_lt (hb e he)⟩
theorem Mono.put_note(s:St)(c:Nat)(x:ABlk)(hc:∃y,s.heap.get c=some y/\live y):Mono s ((s.put c x).note (.all c)):=
 ⟨n_,fun _ h=>List.mem_cons_of_mem _ h,fun h b hb=>by
  show(s.put c x).heap.get b=none
  rw[get_put];by_cases hbc:b=c
  ·subst hbc;obtain⟨y,hy,_⟩:=hc;rw[h b hb] at hy;cases hy
  ·rw[if_neg hbc];exact h b hb,fun hw b y h hn=>by
  show Keep _ b y ((s.put c x).heap.get b);rw[get_put];by_cases hbc:b=c
  ·subst hbc;exact absurd (List.mem_cons_self ..) hn
  ·rw[if_neg hbc,h];exact Keep.refl _ _ _,fun _ b x' _ h hl=>by
  replace h:(s.put c x).heap.get b=some x':=h;rw[get_put] at h;by_cases hbc:b=c
  ·subst hbc;exact hc
  ·rw[if_neg hbc] at h;exact⟨x',h,hl⟩,fun _ e he=>by
  rcases List.mem_cons.1 he with rfl|he
  ·exact .inr (.inr hc)
  ·exact .inl he,fun hw hb e he=>by
  rcases List.mem_cons.1 he with rfl|he
  ·obtain⟨y,hy,_⟩:=hc;show c<s.n;exact lt_wf hw hy
  ·exact hb e he⟩
theorem Mono.write(s:St)(c:Nat){t:TypeId}{cs cs':List AV}{off n:Nat}(hc:s.heap.get c=some (.cells t cs))(hl:cs'.length=cs.length)(hk:∀i,¬(off<=i/\i<off+n)->cs'[i]? =cs[i]?):Mono s ((s.put c (.cells t cs')).note (.wr c off n)):=
 ⟨n_,fun _ h=>List.mem_cons_of_mem _ h,fun h b hb=>by
  show(s.put c (.cells t cs')).heap.get b=none
  rw[get_put];by_cases hbc:b=c
  ·subst hbc;rw[h b hb] at hc;cases hc
  ·rw[if_neg hbc];exact h b hb,fun hw b y h hn=>by
  show Keep _ b y ((s.put c (.cells t cs')).heap.get b);rw[get_put];by_cases hbc:b=c
  ·subst hbc
   rw[if_pos rfl];rw[hc] at h;cases h;exact⟨cs',rfl,hl,fun i hi=>hk i (fun hh=>hi (.wr b off n) (List.mem_cons_self ..) ⟨rfl,hh⟩)⟩
  ·rw[if_neg hbc,h];exact Keep.refl _ _ _,fun _ b x' _ h hl2=>by
  replace h:(s.put c (.cells t cs')).heap.get b=some x':=h;rw[get_put] at h;by_cases hbc:b=c
  ·subst hbc;exact⟨_,hc,trivial⟩
  ·rw[if_neg hbc] at h;exact⟨x',h,hl2⟩,fun _ e he=>by
  rcases List.mem_cons.1 he with rfl|he
  ·exact .inr (.inr ⟨_,hc,trivial⟩)
  ·exact .inl he,fun hw hb e he=>by
  rcases List.mem_cons.1 he with rfl|he
  ·show c<s.n;exact lt_wf hw hc
  ·exact hb e he⟩
theorem Mono.note(s:St)(e:LE)(hc:∃y,s.heap.get e.blk=some y/\live y):Mono s (s.note e):=⟨n_,fun _ h=>List.mem_cons_of_mem _ h,fun h b hb=>h b hb,fun _ b x h _=>by
 show Keep _ b x (s.heap.get b);rw[h];exact Keep.refl _ _ _,fun _ b x' _ h hl=>⟨x',h,hl⟩,fun _ e he=>by
 rcases List.mem_cons.1 he with rfl|he
 ·exact .inr (.inr hc)
 ·exact .inl he,fun hw hb e he=>by
 rcases List.mem_cons.1 he with rfl|he
 ·obtain⟨y,hy,_⟩:=hc;show _<s.n;exact lt_wf hw hy
 ·exact hb e he⟩
theorem tn_old{n n' b:Nat}(hb:b<n)(h:∃i,Tn T n n' b i):∃i,T b i:=by
 obtain⟨i,h|h⟩:=h
 ·exact⟨i,h⟩
 ·omega
theorem Post.made{x:ABlk}{o:Obj}{r:RB}(h:Good ρ T s.heap.get w)(hwf:WfS s)(hf:ρ s.n=none)(htn:∀b i,T b i->b<s.n)(hw:Add w w' o)(hr:r.blk=w.heap.size)(hx:BR (ρ.add s.n r) (fun _=>True) s.n w' x):Post ρ T s w (ρ.add s.n r) (s.new x) w':=by
 have hle:=Env.add_le (r:=r) hf;refine⟨hle,fun b q hb=> ?_,fun b q h1 h2 hlt=> ?_,⟨fun b y hb hT=> ?_,fun b b' q q' y y' hy hy' hl hl' ht ht' hq hq' e=> ?_,fun b q hb=> ?_⟩,⟨hw.os,hw.tape,hw.output,by have:=hw.size;omega,fun B hB _=>hw.other B hB,fun B c t fr hc _=>⟨c,(hw.other B (lt_of_some hc)).trans hc,rfl,fun _ _=>rfl⟩⟩⟩
 ·by_cases hbn:b=s.n
  ·subst hbn;exact .inr ⟨n_,Nat.lt_succ_self _⟩
  ·rw[Env.add_ne r hbn] at hb;exact .inl hb
 ·by_cases hbn:b=s.n
  ·subst hbn
   rw[Env.add_self] at h2;cases h2;omega
  ·rw[Env.add_ne r hbn,h1] at h2;cases h2
 ·rw[get_new] at hb
  by_cases hbn:b=s.n
  ·subst hbn
   rw[if_pos rfl] at hb;cases hb;exact hx.mono (Env.le_refl _) (fun _ _=>trivial) (fun _ _=>rfl)
  ·rw[if_neg hbn] at hb
   have hbo:b<s.n:=by
    rcases Nat.lt_or_ge b s.n with h1|h1
    ·exact h1
    ·rw[hwf b h1] at hb;cases hb
   refine(h.sat b y hb (tn_old hbo hT)).mono hle (fun i hi=> ?_) (fun q hq=>hw.other _ (h.old b q hq))
   rcases hi with hi|hi
   ·exact hi
   ·omega
 ·rw[get_new] at hy hy'
  have key:∀b y q,(if b=s.n then some x else s.heap.get b)=some y->(ρ.add s.n r) b=some q->(b=s.n/\q=r)\/(b≠s.n/\b<s.n/\s.heap.get b=some y/\ρ b=some q):=fun b y q hy hq=>by
   by_cases hb:b=s.n
   ·subst hb;rw[Env.add_self] at hq;cases hq;exact .inl ⟨rfl,rfl⟩
   ·rw[if_neg hb] at hy
    rw[Env.add_ne r hb] at hq;refine .inr ⟨hb,?_,hy,hq⟩;rcases Nat.lt_or_ge b s.n with h1|h1
    ·exact h1
    ·rw[hwf b h1] at hy;cases hy
  rcases key b y q hy hq with⟨h1,h2⟩|⟨h1,h2,h3,h4⟩<;>rcases key b' y' q' hy' hq' with⟨h1',h2'⟩|⟨h1',h2',h3',h4'⟩
  ·omega
  ·have:=h.old _ _ h4';rw[h2] at e;omega
  ·have:=h.old _ _ h4;rw[h2'] at e;omega
  ·exact h.inj b b' q q' y y' h3 h3' hl hl' (tn_old h2 ht) (tn_old h2' ht') h4 h4' e
 ·have:=hw.size
  by_cases hbn:b=s.n
  ·subst hbn;rw[Env.add_self] at hb;cases hb;omega
  ·rw[Env.add_ne r hbn] at hb;have:=h.old b q hb;omega
theorem Post.alt{x x':ABlk}{b:Nat}{o:Obj}{r:RB}(h:Good ρ T s.heap.get w)(hb:s.heap.get b=some x)(hl:live x)(hT:∃i,T b i)(hr:ρ b=some r)(hw:Alt w w' r.blk o)(hx:BR ρ (T b) b w' x'):Post ρ T s w ρ ((s.put b x').note (.all b)) w':=by
 refine⟨Env.le_refl ρ,fun c q hc=> .inl hc,fun c q h1 h2 _=>(nomatch (h1.symm.trans h2)),?_,⟨hw.os,hw.tape,hw.output,Nat.le_of_eq hw.size.symm,fun B hB hn=> ?_,fun B c t fr hc hna=> ?_⟩⟩
 ·show Good ρ (Tn T s.n s.n) _ _
  rw[Tn_same];refine⟨fun c y hc hTc=> ?_,fun c c' q q' y y' hy hy' hl1 hl' ht ht' hq hq' e=> ?_,fun c q hc=>by rw[hw.size];exact h.old c q hc⟩
  ·replace hc:(s.put b x').heap.get c=some y:=hc
   rw[get_put] at hc;by_cases hcb:c=b
   ·subst hcb;rw[if_pos rfl] at hc;cases hc;exact hx
   ·rw[if_neg hcb] at hc
    by_cases hly:live y
    ·refine(h.sat c y hc hTc).mono (Env.le_refl ρ) (fun _ h=>h) (fun q hq=>hw.other _ (fun e=>hcb (h.inj c b q r y x hc hb hly hl hTc hT hq hr e)))
    ·cases y<;>first|exact trivial|exact absurd trivial hly
  ·replace hy:(s.put b x').heap.get c=some y:=hy
   replace hy':(s.put b x').heap.get c'=some y':=hy';rw[get_put] at hy hy'
   have key:∀c y,(if c=b then some x' else s.heap.get c)=some y->live y->∃z,s.heap.get c=some z/\live z:=fun c y hy hl1=>by
    by_cases hcb:c=b
    ·subst hcb;exact⟨x,hb,hl⟩
    ·rw[if_neg hcb] at hy;exact⟨y,hy,hl1⟩
   obtain⟨z,h1,h2⟩:=key c y hy hl1;obtain⟨z',h1',h2'⟩:=key c' y' hy' hl';exact h.inj c c' q q' z z' h1 h1' h2 h2' ht ht' hq hq' e
 ·refine hw.other B (fun e=>hn 0 ⟨.all b,List.mem_cons_self ..,r,hr,e.symm,trivial⟩)
 ·exact⟨c,(hw.other B (fun e=>hna ⟨b,r,List.mem_cons_self ..,hr,e.symm⟩)).trans hc,rfl,fun _ _=>rfl⟩
theorem Post.kill{x:ABlk}{b:Nat}(h:Good ρ T s.heap.get w)(hb:s.heap.get b=some x)(hl:live x)(hw:Still w w'):Post ρ T s w ρ ((s.put b .dead).note (.all b)) w':=by
 refine⟨Env.le_refl ρ,fun c q hc=> .inl hc,fun c q h1 h2 _=>(nomatch (h1.symm.trans h2)),?_,Unch.refl _ _ _ _ hw.os hw.tape hw.output hw.heap⟩;show Good ρ (Tn T s.n s.n) _ _;rw[Tn_same];refine⟨fun c y hc hTc=> ?_,fun c c' q q' y y' hy hy' hl1 hl' ht ht' hq hq' e=> ?_,fun c q hc=>by rw[hw.heap];exact h.old c q hc⟩
 ·replace hc:(s.put b .dead).heap.get c=some y:=hc
  rw[get_put] at hc;by_cases hcb:c=b
  ·rw[if_pos hcb] at hc;cases hc;exact trivial
  ·rw[if_neg hcb] at hc
   exact(h.sat c y hc hTc).mono (Env.le_refl ρ) (fun _ h=>h) (fun q _=>by rw[hw.heap])
 ·replace hy:(s.put b .dead).heap.get c=some y:=hy
  replace hy':(s.put b .dead).heap.get c'=some y':=hy';rw[get_put] at hy hy'
  have key:∀c y,(if c=b then some .dead else s.heap.get c)=some y->live y->s.heap.get c=some y:=fun c y hy hl1=>by
   by_cases hcb:c=b
   ·rw[if_pos hcb] at hy;cases hy;exact hl1.elim
   ·rwa [if_neg hcb] at hy
  exact h.inj c c' q q' y y' (key c y hy hl1) (key c' y' hy' hl') hl1 hl' ht ht' hq hq' e
theorem Post.write{t:TypeId}{cs cs':List AV}{b off n:Nat}{r:RB}{c c':Array Value}{fr:Nat×Nat}(h:Good ρ T s.heap.get w)(hb:s.heap.get b=some (.cells t cs))(hT:∃i,T b i)(hr:ρ b=some r)(hc:w.heap[r.blk]? =some (.cells c (t/2) fr))(hw:Alt w w' r.blk (.cells c' (t/2) fr))(hz:c'.size=c.size)(hs:∀o,¬(r.base+off<=o/\o<r.base+off+n)->c'[o]? =c[o]?)(hn:0<n)(hl:cs'.length=cs.length)(hv:∀i a,cs'[i]? =some a->T b i->∃v,c'[r.base+i]? =some v/\VR ρ a v):Post ρ T s w ρ ((s.put b (.cells t cs')).note (.wr b off n)) w':=by
 have hsat:=h.sat b _ hb hT;obtain⟨r0,c0,fr0,g1,g2,g3,g4,g5,g6⟩:=hsat;have e1:r0=r:=Option.some.inj (g1.symm.trans hr);subst e1;have e2:Obj.cells c0 (t/2) fr0= .cells c (t/2) fr:=Option.some.inj (g2.symm.trans hc);simp only[Obj.cells.injEq] at e2;obtain⟨e2,_,e3⟩:=e2;subst e2 e3;refine⟨Env.le_refl ρ,fun c q hc=> .inl hc,fun c q h1 h2 _=>(nomatch (h1.symm.trans h2)),?_,⟨hw.os,hw.tape,hw.output,Nat.le_of_eq hw.size.symm,fun B hB hno=> ?_,fun B c1 t1 fr1 hc1 hna=> ?_⟩⟩
 ·show Good ρ (Tn T s.n s.n) _ _
  rw[Tn_same];refine⟨fun c y hcy hTc=> ?_,fun c c' q q' y y' hy hy' hl1 hl' ht ht' hq hq' e=> ?_,fun c q hc=>by rw[hw.size];exact h.old c q hc⟩
  ·replace hcy:(s.put b (.cells t cs')).heap.get c=some y:=hcy
   rw[get_put] at hcy;by_cases hcb:c=b
   ·subst hcb
    rw[if_pos rfl] at hcy;cases hcy;exact⟨r0,c',fr0,hr,hw.here,by rw[hz];exact g3,by rw[hl];exact g4,fun o h1 h2=>g5 o h1 (by rw[<-hz];exact h2),hv⟩
   ·rw[if_neg hcb] at hcy
    by_cases hly:live y
    ·refine(h.sat c y hcy hTc).mono (Env.le_refl ρ) (fun _ h=>h) (fun q hq=>hw.other _ (fun e=>hcb (h.inj c b q r0 y _ hcy hb hly trivial hTc hT hq hr e)))
    ·cases y<;>first|exact trivial|exact absurd trivial hly
  ·replace hy:(s.put b (.cells t cs')).heap.get c=some y:=hy
   replace hy':(s.put b (.cells t cs')).heap.get c'=some y':=hy';rw[get_put] at hy hy'
   have key:∀c y,(if c=b then some (.cells t cs') else s.heap.get c)=some y->live y->∃z,s.heap.get c=some z/\live z:=fun c y hy hl1=>by
    by_cases hcb:c=b
    ·subst hcb;exact⟨_,hb,trivial⟩
    ·rw[if_neg hcb] at hy;exact⟨y,hy,hl1⟩
   obtain⟨z,h1,h2⟩:=key c y hy hl1;obtain⟨z',h1',h2'⟩:=key c' y' hy' hl';exact h.inj c c' q q' z z' h1 h1' h2 h2' ht ht' hq hq' e
 ·refine hw.other B (fun e=>hno (r0.base+off) ⟨.wr b off n,List.mem_cons_self ..,r0,hr,e.symm,n_,by omega⟩)
 ·by_cases hB:B=r0.blk
  ·subst hB
   rw[hc] at hc1;cases hc1;exact⟨c',hw.here,hz,fun o ho=>hs o (fun hh=>ho ⟨.wr b off n,List.mem_cons_self ..,r0,hr,rfl,hh⟩)⟩
  ·exact⟨c1,(hw.other B hB).trans hc1,rfl,fun _ _=>rfl⟩
theorem Post.adopt{x y:ABlk}{b:Nat}{o:Obj}{r q:RB}(h:Good ρ T s.heap.get w)(hwf:WfS s)(hf:ρ s.n=none)(hb:s.heap.get b=some x)(hl:live x)(hT:∃i,T b i)(hr:ρ b=some r)(hw:Alt w w' r.blk o)(hq:q.blk=r.blk)(hbn:b<s.n)(hx:BR (ρ.add s.n q) (fun _=>True) s.n w' y):Post ρ T s w (ρ.add s.n q) (((s.put b .dead).note (.all b)).new y) w':=by
 have hle:=Env.add_le (r:=q) hf
 have hget:∀c,(((s.put b .dead).note (.all b)).new y).heap.get c=if c=s.n then some y else if c=b then some .dead else s.heap.get c:=fun c=>by
  rw[get_new];show(if c=s.n then _ else(s.put b .dead).heap.get c)=_
  rw[get_put]
 have hall:All ρ (((s.put b .dead).note (.all b)).new y).log r.blk:=⟨b,r,List.mem_cons_self ..,hr,rfl⟩
 have key:∀c z p,(if c=s.n then some y else if c=b then some .dead else s.heap.get c)=some z->live z->(ρ.add s.n q) c=some p->(c=s.n/\p=q)\/(c≠s.n/\c<s.n/\c≠b/\s.heap.get c=some z/\ρ c=some p):=fun c z p hz hlz hp=>by
  by_cases hc:c=s.n
  ·subst hc;rw[Env.add_self] at hp;cases hp;exact .inl ⟨rfl,rfl⟩
  ·rw[if_neg hc] at hz
   rw[Env.add_ne q hc] at hp;by_cases hcb:c=b
   ·rw[if_pos hcb] at hz;cases hz;exact hlz.elim
   ·rw[if_neg hcb] at hz
    refine .inr ⟨hc,?_,hcb,hz,hp⟩;rcases Nat.lt_or_ge c s.n with h1|h1
    ·exact h1
    ·rw[hwf c h1] at hz;cases hz
 refine⟨hle,fun c p hc=> ?_,fun c p h1 h2 hlt=> ?_,⟨fun c z hc hTc=> ?_,fun c c' p p' z z' hz hz' hl1 hl' ht ht' hp hp' e=> ?_,fun c p hc=> ?_⟩,⟨hw.os,hw.tape,hw.output,Nat.le_of_eq hw.size.symm,fun B hB hn=> ?_,fun B c1 t1 fr1 hc1 hna=> ?_⟩⟩
 ·by_cases hcn:c=s.n
  ·subst hcn;exact .inr ⟨n_,Nat.lt_succ_self _⟩
  ·rw[Env.add_ne q hcn] at hc;exact .inl hc
 ·by_cases hcn:c=s.n
  ·subst hcn
   rw[Env.add_self] at h2;cases h2;rw[hq];exact hall
  ·rw[Env.add_ne q hcn,h1] at h2;cases h2
 ·rw[hget] at hc
  by_cases hcn:c=s.n
  ·subst hcn
   rw[if_pos rfl] at hc;cases hc;exact hx.mono (Env.le_refl _) (fun _ _=>trivial) (fun _ _=>rfl)
  ·by_cases hcb:c=b
   ·rw[if_neg hcn,if_pos hcb] at hc;cases hc;exact trivial
   ·rw[if_neg hcn,if_neg hcb] at hc
    have hco:c<s.n:=by
     rcases Nat.lt_or_ge c s.n with h1|h1
     ·exact h1
     ·rw[hwf c h1] at hc;cases hc
    have hTo:=tn_old hco hTc;by_cases hlz:live z
    ·refine(h.sat c z hc hTo).mono hle (fun i hi=> ?_) (fun p hp=>hw.other _ (fun e=>hcb (h.inj c b p r z x hc hb hlz hl hTo hT hp hr e)))
     rcases hi with hi|hi
     ·exact hi
     ·omega
    ·cases z<;>first|exact trivial|exact absurd trivial hlz
 ·rw[hget] at hz hz'
  rcases key c z p hz hl1 hp with⟨h1,h2⟩|⟨h1,h2,h3,h4,h5⟩<;>rcases key c' z' p' hz' hl' hp' with⟨h1',h2'⟩|⟨h1',h2',h3',h4',h5'⟩
  ·omega
  ·exact absurd (h.inj c' b p' r z' x h4' hb hl' hl (tn_old h2' ht') hT h5' hr (by rw[<-e,h2,hq])) h3'
  ·exact absurd (h.inj c b p r z x h4 hb hl1 hl (tn_old h2 ht) hT h5 hr (by rw[e,h2',hq])) h3
  ·exact h.inj c c' p p' z z' h4 h4' hl1 hl' (tn_old h2 ht) (tn_old h2' ht') h5 h5' e
 ·rw[hw.size]
  by_cases hcn:c=s.n
  ·subst hcn;rw[Env.add_self] at hc;cases hc;rw[hq];exact h.old b r hr
  ·rw[Env.add_ne q hcn] at hc;exact h.old c p hc
 ·exact hw.other B (fun e=>hn 0 (e▸hall.wrt 0))
 ·exact⟨c1,(hw.other B (fun e=>hna (e▸hall))).trans hc1,rfl,fun _ _=>rfl⟩
end
end Go.Proofs.YtnocnbklhikmnaaGreatDoor.Rk
namespace Go.Proofs.YtnocnbklhikmnaaGreatDoor
section
open Go.RowKit
def EStr:Enc ByteArray:=Enc.flat (fun s=>[.string s]) 1 Nat.one_pos (fun s=>s.size<=1048576) (fun _=>rfl) (fun _ u hu=>by simp at hu;subst hu;rfl)
def EComp:Enc (List ByteArray):=EStr.list
def ERep:Enc (List (List ByteArray)):=EComp.list
def EField:Enc (List (List (List ByteArray))):=ERep.list
def EFields:Enc (List (List (List (List ByteArray)))):=EField.list
def ESeg:Enc M.Seg:=Enc.pair EStr EFields M.Seg.name M.Seg.fields
def EInt:Enc Int:=Enc.flat (fun i=>[.int .i64 i]) 1 Nat.one_pos (fun i=> -9223372036854775808<=i/\i<=9223372036854775807) (fun _=>rfl) (fun _ u hu=>by simp at hu;subst hu;rfl)
def M.Path.cells(p:M.Path):List Value:=[.string p.seg,.int .i64 p.occ,.int .i64 p.fld,.int .i64 p.rep,.int .i64 p.comp,.int .i64 p.sub]
def M.Node.cells(x:M.Node):List Value:=[.int .i64 x.op,.int .i64 x.n,.string x.text,.int .i64 x.num]++x.path.cells
def I64(i:Int):Prop:= -9223372036854775808<=i/\i<=9223372036854775807
def M.Path.ok64(p:M.Path):Prop:=p.seg.size<=1048576/\I64 p.occ/\I64 p.fld/\I64 p.rep/\I64 p.comp/\I64 p.sub
def M.Node.ok64(x:M.Node):Prop:=I64 x.op/\I64 x.n/\x.text.size<=1048576/\I64 x.num/\x.path.ok64
def ENode:Enc M.Node:=Enc.flat M.Node.cells 10 (by omega) M.Node.ok64 (fun _=>rfl) (fun x u hu=>by
 simp[M.Node.cells,M.Path.cells] at hu;rcases hu with rfl|rfl|rfl|rfl|rfl|rfl|rfl|rfl|rfl|rfl<;>rfl)
def ENodes:Enc (List M.Node):=ENode.list
def EPair:Enc (ByteArray×ByteArray):=Enc.flat (fun p=>[.string p.1,.string p.2]) 2 (by omega) (fun p=>p.1.size<=1048576/\p.2.size<=1048576) (fun _=>rfl) (fun _ u hu=>by
 simp at hu;rcases hu with rfl|rfl<;>rfl)
def EPairs:Enc (List (ByteArray×ByteArray)):=EPair.list
def ETable:Enc M.Table:=Enc.pair EStr EPairs M.Table.name M.Table.entries
def M.Val.cells(v:M.Val):List Value:=[.int .i64 v.kind,.string v.text,.int .i64 v.num,.bool v.truth]
def EVal:Enc M.Val:=Enc.flat M.Val.cells 4 (by omega) (fun v=>v.text.size<=1048576) (fun _=>rfl) (fun v u hu=>by
 simp[M.Val.cells] at hu;rcases hu with rfl|rfl|rfl|rfl<;>rfl)
section
variable {w w':World} {S:Nat->Prop} {u:Value} {cs:List Value}
theorem EStr.inv{s:ByteArray}(h:EStr.R w S [u] s):u= .string s/\s.size<=1048576:=by
 obtain⟨h1,h2⟩:=h;simp at h1;exact⟨h1,h2⟩
theorem EStr.mk{s:ByteArray}(h:s.size<=1048576):EStr.R w S [.string s] s:=⟨rfl,h⟩
theorem list_shape{α:Type}{E:Enc α}{x:List α}(h:E.list.R w S [u] x):∃A n c,u= .slice A n c:=by
 obtain⟨A,c,rfl,_⟩:=Enc.list_inv h;exact⟨_,_,_,rfl⟩
theorem ESeg.inv{s:M.Seg}(h:ESeg.R w S cs s):∃A c,cs=[.string s.name,.slice A s.fields.length c]/\s.name.size<=1048576/\SOk A s.fields.length c/\LAt EField w S A s.fields.length s.fields:=by
 obtain⟨c1,c2,rfl,⟨rfl,hn⟩,h2⟩:=h;obtain⟨v,rfl⟩:=one_cell (EFields.len h2);obtain⟨A,c,rfl,hok,hl⟩:=Enc.list_inv (E:=EField) h2;exact⟨A,c,rfl,hn,hok,hl⟩
theorem ETable.inv{t:M.Table}(h:ETable.R w S cs t):∃A c,cs=[.string t.name,.slice A t.entries.length c]/\t.name.size<=1048576/\SOk A t.entries.length c/\LAt EPair w S A t.entries.length t.entries:=by
 obtain⟨c1,c2,rfl,⟨rfl,hn⟩,h2⟩:=h;obtain⟨v,rfl⟩:=one_cell (EPairs.len h2);obtain⟨A,c,rfl,hok,hl⟩:=Enc.list_inv (E:=EPair) h2;exact⟨A,c,rfl,hn,hok,hl⟩
end
def GivesMsg(w:World)(m:M.Msg)(e:Ending)(w':World):Prop:=∃A c,e= .returned (.agg #[.int .u8 (m.d.f.toNat:Int),.int .u8 (m.d.c.toNat:Int),.int .u8 (m.d.r.toNat:Int),.int .u8 (m.d.e.toNat:Int),.int .u8 (m.d.s.toNat:Int),.slice A m.segs.length c])/\SOk A m.segs.length c/\LAt ESeg w' (New w w') A m.segs.length m.segs/\Below w.heap.size w w'
def valU8(b:UInt8):Value:= .int .u8 (b.toNat:Int)
def OwnB(w:World)(B:Nat)(v:Value)(l:List UInt8):Prop:=w.ownsRow B 5 1 v l.length (l.map valU8)
theorem valU8_one(l:List UInt8):∀u∈l.map valU8,u.oneCell'=true:=by
 intro u hu;obtain⟨_,_,rfl⟩:=List.mem_map.1 hu;rfl
section
variable {w w':World} {B B':Nat} {v:Value} {l:List UInt8}
theorem OwnB.nil(w:World)(B:Nat):OwnB w B (.slice none 0 0) []:=World.ownsRow_nil _ _ _ _
theorem OwnB.alloc(h:OwnB w B v l)(o:Obj):OwnB (w.alloc o) B v l:=World.ownsRow.alloc h o
theorem OwnB.below{C:Nat}(h:OwnB w B v l)(hb:Below C w w')(hC:w.heap.size<=C):OwnB w' B v l:=by
 obtain⟨h1,h2⟩:=h;refine⟨h1,?_⟩;rcases h2 with h2|⟨g,cap,cur,hv,hg,hh,r⟩
 ·exact .inl h2
 ·have hlt:g<w.heap.size:=by
   rcases Nat.lt_or_ge g w.heap.size with h|h
   ·exact h
   ·rw[Array.getElem?_eq_none h] at hh;cases hh
  exact .inr ⟨g,cap,cur,hv,hg,by rw[hb.block g (by omega)];exact hh,r⟩
theorem OwnB.made(w:World)(n:Nat)(hn:n<=maxLen):OwnB (w.alloc (.cells (cellsU8 (List.replicate n 0)) 5)) w.heap.size (.slice (some ⟨w.heap.size,0,none⟩) 0 n) []:=
 ⟨by simp,.inr ⟨w.heap.size,n,cellsU8 (List.replicate n 0),rfl,n_,heap_alloc_new w _,Nat.zero_le _,hn,by simp[cellsU8_size],by simp⟩⟩
theorem OwnB.string(h:OwnB w B v l):(convert 82 9 v).run Tryz.prog w= .ok (.string ⟨l.toArray⟩) w:=by
 rcases h.2 with⟨rfl,hn⟩|⟨g,cap,cur,rfl,hg,hh,r⟩
 ·have hl:l=[]:=List.eq_nil_of_length_eq_zero hn
  subst hl;exact run_convert_bytes_nil (P:=Tryz.prog) w 82 5 Tryz.underlying82 Tryz.underlying5 0 0 9 Tryz.underlying9
 ·have hc:=World.ownsRow.cells h (g:=g) rfl
  have h1:=run_convert_bytes_arg (P:=Tryz.prog) w 82 5 Tryz.underlying82 Tryz.underlying5 g 0 l.length cap (l.map fun b=>(b.toNat:Int)) (by simp) (fun i hi=>by
   have hx:=hc i (valU8 l[i]) (by simp[hi]);rw[Addr.add_lit] at hx;rw[hx];simp[valU8,hi]) 9 Tryz.underlying9
  rw[h1];have he:((fun n:Int=>UInt8.ofNat n.toNat)∘fun b:UInt8=>(b.toNat:Int))=id:=by funext b;simp
  simp[strOfNums,he]
end
theorem wpList_append_bytes{w:World}{ops:Array Oper}{rest:List Oper}{o:Oper}{a:Act}{Q:Exit->Act->World->Prop}(hgd:o.guard=none)(s x:Operand)(ho:o.op= .call {callee:= .builtin .append,args:=#[s,x],argTypes:=#[82,82]})(B:Nat)(v:Value)(l:List UInt8)(hs:a.eval s=v)(hown:OwnB w B v l)(ad:Addr)(m c:Nat)(news:List UInt8)(hx:a.eval x= .slice (some ad) m c)(hl:news.length=m)(hnews:∀j u,news[j]? =some u->w.cell? (ad.add j)=some (valU8 u))(hbytes:l.length+m<=140737488355328)(hbase:B<=w.heap.size)(h:∀v' w',OwnB w' B v' (l++news)->Below B w w'->wpList Tryz.prog ops Q rest (a.put o.dst v') w'):wpList Tryz.prog ops Q (o::rest) a w:=by
 obtain⟨i,hi,hz,hs1,hb1⟩:=info_parts infoU8
 refine wpList_append_own w hgd s x 82 ho B 5 i (.int .u8 0) 1 1 Tryz.underlying82 hi hz hs1 hb1 rfl (by omega) v l.length (l.map valU8) hs hown ad m c (news.map valU8) hx (by simp[hl])
  (fun j u hu=>by
    rw[List.getElem?_map] at hu;obtain⟨b,hb,rfl⟩:=Option.map_eq_some_iff.1 hu;exact hnews j b hb) (valU8_one _) (by unfold maxLen;omega) (by omega) hbase ?_
 intro v' w' hown' hg _;refine h v' w' ?_ ((Below.refl _ _).grown hg hbase (fun k hk=>(World.ownsRow.lt hown k hk).1));unfold OwnB;rw[List.length_append,List.map_append,hl];exact hown'
theorem wpList_append_bytes_fits{w:World}{ops:Array Oper}{rest:List Oper}{o:Oper}{a:Act}{Q:Exit->Act->World->Prop}(hgd:o.guard=none)(s x:Operand)(ho:o.op= .call {callee:= .builtin .append,args:=#[s,x],argTypes:=#[82,82]})(B g cap:Nat)(l:List UInt8)(hs:a.eval s= .slice (some ⟨g,0,none⟩) l.length cap)(hown:OwnB w B (.slice (some ⟨g,0,none⟩) l.length cap) l)(ad:Addr)(m c:Nat)(news:List UInt8)(hx:a.eval x= .slice (some ad) m c)(hl:news.length=m)(hnews:∀j u,news[j]? =some u->w.cell? (ad.add j)=some (valU8 u))(hcap:l.length+m<=cap)(hbase:B<=w.heap.size)(h:∀w',OwnB w' B (.slice (some ⟨g,0,none⟩) (l++news).length cap) (l++news)->Below B w w'->wpList Tryz.prog ops Q rest (a.put o.dst (.slice (some ⟨g,0,none⟩) (l++news).length cap)) w'):wpList Tryz.prog ops Q (o::rest) a w:=by
 obtain⟨i,hi,hz,hs1,hb1⟩:=info_parts infoU8
 refine wpList_append_fits w hgd s x 82 ho B 5 i 1 Tryz.underlying82 hi hs1 g l.length cap (l.map valU8) hs hown ad m c (news.map valU8) hx (by simp[hl])
  (fun j u hu=>by
    rw[List.getElem?_map] at hu;obtain⟨b,hb,rfl⟩:=Option.map_eq_some_iff.1 hu;exact hnews j b hb) (valU8_one _) hcap ?_
 intro w' hown' hg;have e:l.length+m=(l++news).length:=by rw[List.length_append,hl]
 rw[e,<-List.map_append] at hown';rw[e]
 exact h w' hown' ((Below.refl _ _).grown hg hbase (fun k hk=>by
  have:=(World.ownsRow.lt hown k (by simpa[Value.ownBlock] using hk)).1;exact this))
theorem newsU8(w:World)(t:TypeId)(l:List UInt8):∀j u,l[j]? =some u->(w.alloc (.cells (cellsU8 l) t)).cell? ((⟨w.heap.size,0,none⟩:Addr).add j)=some (valU8 u):=by
 intro j u hu;rw[Addr.add_lit,Nat.zero_add,(Blk.new w t (cellsU8 l)).cell,cellsU8_get,hu];rfl
end
section
open Go Go.RowKit Go.BigFrame
namespace Ad
abbrev Bs:=List UInt8
def letter(c:UInt8):Bool:=decide (97<=c.toNat/\c.toNat<=122\/65<=c.toNat/\c.toNat<=90)
def digit(c:UInt8):Bool:=decide (48<=c.toNat/\c.toNat<=57)
def nameC(c:UInt8):Bool:=letter c||digit c||decide (c.toNat=95)
def pathC(c:UInt8):Bool:=letter c||digit c||decide (0<=Lib.indexByte [91,93,45,46] (c.toNat:Int).toNat.toUInt8)
def run(p:UInt8->Bool)(l:Bs):Nat:=(l.takeWhile p).length
theorem run_le(p:UInt8->Bool)(l:Bs):run p l<=l.length:=by
 unfold run;exact(List.takeWhile_prefix p).length_le
theorem run_drop(p:UInt8->Bool)(l:Bs)(k:Nat)(h:∀j,j<k->∃c,l[j]? =some c/\p c=true):run p l=k+run p (l.drop k):=by
 induction k generalizing l with
 |zero=>simp
 |succ k ih=>
  cases l with
  |nil=>
   obtain⟨c,hc,_⟩:=h 0 (by omega);cases hc
  |cons a l=>
   obtain⟨c,hc,hp⟩:=h 0 (by omega);simp at hc;subst hc
   have h2:=ih l (fun j hj=>by
    have:=h (j+1) (by omega);simpa using this)
   unfold run at h2⊢;rw[List.takeWhile_cons_of_pos hp];simp[h2];omega
theorem run_stop(p:UInt8->Bool){l:Bs}{c:UInt8}(h:l[0]? =some c)(hp:p c=false):run p l=0:=by
 cases l with
 |nil=>rfl
 |cons a l=>
  simp at h;subst h;unfold run;rw[List.takeWhile_cons_of_neg (by simp[hp])];rfl
end Ad
theorem letter_any(c:UInt8)(w:World):
 Calls Tryz.prog 212 #[.int .u8 (c.toNat:Int)] w fun e w'=>e= .returned (.bool (Ad.letter c))/\w'=w:=by
 have hb:=c.toNat_lt;have hn:Ad.letter c=decide (97<=c.toNat/\c.toNat<=122\/65<=c.toNat/\c.toNat<=90):=rfl;generalize Ad.letter c=r at*;generalize c.toNat=n at*;rcases(by omega:n<65\/(65<=n/\n<=90)\/(90<n/\n<97)\/(97<=n/\n<=122)\/122<n) with h|⟨h,h'⟩|⟨h,h'⟩|⟨h,h'⟩|h<;>
 (have HR:=q_ hn
  clear hn;go_enter Tryz.func212,Tryz.ntmps212;go_wp2;go_ret;refine⟨?_,rfl⟩;have h2:=HR.o
  first|rw[decide_eq_true (by omega)] at h2|rw[decide_eq_false (by omega)] at h2
  rw[h2]
  first|rfl|(refine congrArg (fun b=>Ending.returned (Value.bool b)) ?_;simp;omega))
theorem isDigit_any(c:UInt8)(w:World):
 Calls Tryz.prog 215 #[.int .u8 (c.toNat:Int)] w fun e w'=>e= .returned (.bool (Ad.digit c))/\w'=w:=by
 have hb:=c.toNat_lt;have hn:Ad.digit c=decide (48<=c.toNat/\c.toNat<=57):=rfl;generalize Ad.digit c=r at*;generalize c.toNat=n at*;rcases(by omega:n<48\/(48<=n/\n<=57)\/57<n) with h|⟨h,h'⟩|h<;>
 (have HR:=q_ hn
  clear hn;go_enter Tryz.func215,Tryz.ntmps215;go_wp2;go_ret;refine⟨?_,rfl⟩;have h2:=HR.o
  first|rw[decide_eq_true (by omega)] at h2|rw[decide_eq_false (by omega)] at h2
  rw[h2]
  first|rfl|(refine congrArg (fun b=>Ending.returned (Value.bool b)) ?_;simp;omega))
theorem inName_any(c:UInt8)(w:World):
 Calls Tryz.prog 214 #[.int .u8 (c.toNat:Int)] w fun e w'=>e= .returned (.bool (Ad.nameC c))/\w'=w:=by
 have hb:=c.toNat_lt;have K1:=q_ (letter_any c w);have K2:=q_ (isDigit_any c w);have hn:Ad.nameC c=(Ad.letter c||Ad.digit c||decide (c.toNat=95)):=rfl;generalize Ad.letter c=r1 at*;generalize Ad.digit c=r2 at*;generalize Ad.nameC c=r at*;generalize c.toNat=n at*;have HR:=q_ hn;clear hn;cases r1 with
 |true=>
  go_enter Tryz.func214,Tryz.ntmps214;go_wp2_with (refine K1.o.mono ?_;rintro e w' ⟨rfl,rfl⟩);go_ret;exact⟨by rw[HR.o];simp,rfl⟩
 |false=>
  cases r2 with
  |true=>
   go_enter Tryz.func214,Tryz.ntmps214;go_wp2_with (first|(go_at_call 212;refine K1.o.mono ?_;rintro e w' ⟨rfl,rfl⟩)|(go_at_call 215;refine K2.o.mono ?_;rintro e w' ⟨rfl,rfl⟩));go_ret;exact⟨by rw[HR.o];simp,rfl⟩
  |false=>
   obtain⟨q,hq⟩:∃q,((n:Int)==95)=q:=⟨_,rfl⟩
   have HQ:=q_ (show decide (n=95)=q by rw[<-hq];cases hd:((n:Int)==95) with
    |true=>rw[beq_iff_eq] at hd;exact decide_eq_true (by omega)
    |false=>rw[beq_eq_false_iff_ne] at hd;exact decide_eq_false (by omega))
   go_enter Tryz.func214,Tryz.ntmps214;go_wp2_with (first|(go_at_call 212;refine K1.o.mono ?_;rintro e w' ⟨rfl,rfl⟩)|(go_at_call 215;refine K2.o.mono ?_;rintro e w' ⟨rfl,rfl⟩));go_ret;refine⟨?_,rfl⟩;rw[HR.o,HQ.o];rfl
end
section
open Go Go.RowKit
theorem strCells_valU8(s:ByteArray):Lib.strCells s=s.data.toList.map valU8:=rfl
theorem wpList_append_str{w:World}{ops:Array Oper}{rest:List Oper}{o:Oper}{a:Act}{Q:Exit->Act->World->Prop}(hgd:o.guard=none)(s x:Operand)(ho:o.op= .call {callee:= .builtin .append,args:=#[s,x],argTypes:=#[82,9]})(B:Nat)(v:Value)(l:List UInt8)(hs:a.eval s=v)(hown:OwnB w B v l)(t:ByteArray)(hx:a.eval x= .string t)(hbytes:l.length+t.size<=140737488355328)(hbase:B<=w.heap.size)(h:∀v' w',OwnB w' B v' (l++t.data.toList)->Below B w w'->wpList Tryz.prog ops Q rest (a.put o.dst v') w'):wpList Tryz.prog ops Q (o::rest) a w:=by
 obtain⟨i,hi,hz,hs1,hb1⟩:=info_parts infoU8;refine Lib.wpList_append_own_string w hgd s x 82 9 ho B 5 i Tryz.underlying82 Tryz.underlying9 hi hz hs1 hb1 v l.length (l.map valU8) hs hown t hx (by unfold maxLen;omega) hbytes hbase ?_;intro v' w' hown' hg _;refine h v' w' ?_ ((Below.refl _ _).grown hg hbase (fun k hk=>(World.ownsRow.lt hown k hk).1));unfold OwnB;rw[List.length_append,List.map_append,<-strCells_valU8];exact(show t.data.toList.length=t.size by simp)▸hown'
def jumpsTo(J:Nat->Act->World->Prop)(Q:Exit->Act->World->Prop):Exit->Act->World->Prop
 | .goto l,a,w=>J l a w
 |e,a,w=>Q e a w
section
variable {J:Nat->Act->World->Prop} {Q:Exit->Act->World->Prop} {a:Act} {w:World}
theorem jumpsTo_ret:jumpsTo J Q .ret a w=Q .ret a w:=rfl
theorem wp_scope_labels{P:Program}{c:Code}(rest:Nat->Code)(J:Nat->Act->World->Prop)(μ:Nat->Act->World->Nat)(hf:∀l a w,J l a w->findLabel c l=some (rest l))(first:c.wp P (jumpsTo J Q) a w)(pass:∀l a w,J l a w->(rest l).wp P (jumpsTo (fun l' a' w'=>J l' a' w'/\μ l' a' w'<μ l a w) Q) a w):(Code.scope c).wp P Q a w:=by
 intro b k cs
 have again:∀n l a w,μ l a w=n->J l a w->∃e a' w',Q e a' w'/\Arrives P (lone (b.at a (.code (rest l):: .inScope c::k)) cs w) b k cs e a' w':=fun n=>by
  induction n using Nat.strongRecOn with
  |_ n ih=>
   intro l a w hn hJ;obtain⟨e,a1,w1,hq,harr⟩:=pass l a w hJ b (.inScope c::k) cs
   match e,hq,harr with
   | .goto l2,hq,harr=>
     obtain⟨hJ2,hlt⟩:=hq;obtain⟨e2,a2,w2,hq2,harr2⟩:=ih _ (hn▸hlt) l2 a1 w1 rfl hJ2;exact⟨e2,a2,w2,hq2,.of_steps (harr _ (by simp[gotoIn,hf l2 a1 w1 hJ2])) harr2⟩
   | .normal,hq,harr=>exact⟨_,a1,w1,hq,Steps.trans harr (.one step_inScope)⟩
   | .exit id,hq,harr=>exact⟨.exit id,a1,w1,hq,fun k' hk=>harr k' (by simpa[exitTo] using hk)⟩
   | .ret,hq,harr=>exact⟨_,a1,w1,hq,harr⟩
   | .panic ch,hq,harr=>exact⟨_,a1,w1,hq,harr⟩
   | .outgrown,hq,harr=>exact⟨_,a1,w1,hq,harr⟩
 obtain⟨e,a1,w1,hq,harr⟩:=first b (.inScope c::k) cs
 match e,hq,harr with
 | .goto l2,hq,harr=>
   obtain⟨e2,a2,w2,hq2,harr2⟩:=again _ l2 a1 w1 rfl hq;exact⟨e2,a2,w2,hq2,.of_steps (.head step_scope (harr _ (by simp[gotoIn,hf l2 a1 w1 hq]))) harr2⟩
 | .normal,hq,harr=>exact⟨.normal,a1,w1,hq,.head step_scope (Steps.trans harr (.one step_inScope))⟩
 | .exit id,hq,harr=>exact⟨.exit id,a1,w1,hq,fun k' hk=> .head step_scope (harr k' (by simpa[exitTo] using hk))⟩
 | .ret,hq,harr=>exact⟨_,a1,w1,hq,.of_steps (.one step_scope) harr⟩
 | .panic ch,hq,harr=>exact⟨_,a1,w1,hq,.of_steps (.one step_scope) harr⟩
 | .outgrown,hq,harr=>exact⟨_,a1,w1,hq,.of_steps (.one step_scope) harr⟩
theorem wp_scope_two{P:Program}{c r0 r1:Code}(J:Nat->Act->World->Prop)(μ:Nat->Act->World->Nat)(h0:findLabel c 0=some (.seq .skip r0))(h1:findLabel c 1=some (.seq .skip r1))(hJ:∀l a w,J l a w->l=0\/l=1)(pass0:∀a w,J 0 a w->r0.wp P (jumpsTo (fun l' a' w'=>J l' a' w'/\μ l' a' w'<μ 0 a w) Q) a w)(pass1:∀a w,J 1 a w->r1.wp P (jumpsTo (fun l' a' w'=>J l' a' w'/\μ l' a' w'<μ 1 a w) Q) a w)(first:(∀a w,J 0 a w->r0.wp P (jumpsTo J Q) a w)->c.wp P (jumpsTo J Q) a w):(Code.scope c).wp P Q a w:=by
 refine wp_scope_labels (fun l=>if l=0 then .seq .skip r0 else .seq .skip r1) J μ (fun l a w h=> ?_) (first fun a w h=>wp_mono (pass0 a w h) fun e a w hq=> ?_) fun l a w h=> ?_
 ·rcases hJ l a w h with rfl|rfl
  ·exact h0
  ·exact h1
 ·cases e with
  |goto l=>exact hq.1
  |_=>exact hq
 ·rcases hJ l a w h with rfl|rfl
  ·exact wp_seq (wp_skip (pass0 a w h))
  ·exact wp_seq (wp_skip (pass1 a w h))
end
end
end Go.Proofs.YtnocnbklhikmnaaGreatDoor
