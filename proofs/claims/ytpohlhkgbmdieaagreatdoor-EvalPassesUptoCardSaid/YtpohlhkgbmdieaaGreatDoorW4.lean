/- Part 4 of the proof. -/
import Derived.Test.YtpohlhkgbmdieaaGreatDoorW3
import Derived.Laws.Strings
import Derived.Laws.Entries
import Derived.Laws.Cells
import Derived.Laws.StructEq
set_option linter.unusedVariables false
set_option maxRecDepth 1000000
set_option maxHeartbeats 16000000
namespace Go.Proofs.YtpohlhkgbmdieaaGreatDoor.Rk
open Go
theorem BR.mono{ρ ρ':Env}{T T':Nat->Prop}{b:Nat}{w w':World}{x:bK}(h:BR ρ T b w x)(hr:ρ.le ρ')(hT:∀i,T' i->T i)(hw:∀r,ρ b=some r->w'.heap[r.blk]? =w.heap[r.blk]?):BR ρ' T' b w' x:=by
 cases x with
 |cells t cs=>
  obtain⟨r,c,fr,h1,h2,h3,h4,h5,h6⟩:=h;exact⟨r,c,fr,hr _ _ h1,(hw r h1).trans h2,h3,h4,h5,fun i a hi ht=>let⟨v,hv,hR⟩:=h6 i a hi (hT i ht);⟨v,hv,hR.mono hr⟩⟩
 |map es clock=>
  obtain⟨r,es',h1,h2,h3,h4,h5⟩:=h;exact⟨r,es',hr _ _ h1,(hw r h1).trans h2,bO.mono hr h3,bO.mono hr h4,h5⟩
 |eE m since seen last=>
  obtain⟨r,m',h1,h2,h3,h4⟩:=h;refine⟨r,m',hr _ _ h1,h2,(hw r h1).trans h3,?_⟩;cases m with
  |none=>exact h4
  |some m=>obtain⟨q,hq,e⟩:=h4;exact⟨q,hr _ _ hq,e⟩
 |i1 l pos=>
  obtain⟨r,h1,h2,h3,h4⟩:=h;exact⟨r,hr _ _ h1,h2,(hw r h1).trans h3,h4⟩
 |pmap es=>
  obtain⟨r,es',el,clock,h1,h2,h3,h4,h5⟩:=h;exact⟨r,es',el,clock,hr _ _ h1,(hw r h1).trans h2,h3,bO.mono hr h4,bO.mono hr h5⟩
 |defd=>
  obtain⟨r,h1,h2⟩:=h;exact⟨r,hr _ _ h1,(hw r h1).trans h2⟩
 |loop ready p sz tmps ps assign body d=>
  obtain⟨r,fn,zb,q,h1,hq,h2,h3,h4⟩:=h;exact⟨r,fn,zb,q,hr _ _ h1,hr _ _ hq,(hw r h1).trans h2,h3,fun t=>(h4 t).mono hr⟩
 |dead=>trivial
theorem BR.YT{ρ:Env}{T:Nat->Prop}{b:Nat}{w:World}{x:bK}(h:BR ρ T b w x)(hl:live x):∃r o,ρ b=some r/\w.heap[r.blk]? =some o:=by
 cases x with
 |cells t cs=>obtain⟨r,c,fr,h1,h2,_⟩:=h;exact⟨r,_,h1,h2⟩
 |map es clock=>obtain⟨r,es',h1,h2,_⟩:=h;exact⟨r,_,h1,h2⟩
 |eE m since seen last=>obtain⟨r,m',h1,_,h2,_⟩:=h;exact⟨r,_,h1,h2⟩
 |i1 l pos=>obtain⟨r,h1,_,h2,_⟩:=h;exact⟨r,_,h1,h2⟩
 |pmap es=>obtain⟨r,es',el,clock,h1,h2,_⟩:=h;exact⟨r,_,h1,h2⟩
 |defd=>obtain⟨r,h1,h2⟩:=h;exact⟨r,_,h1,h2⟩
 |loop ready p sz tmps ps assign body d=>obtain⟨r,fn,zb,q,h1,hq,h2,_⟩:=h;exact⟨r,_,h1,h2⟩
 |dead=>exact hl.elim
theorem qx(T:Nat->Nat->Prop)(n:Nat):Tn T n n=T:=by
 funext b i;unfold Tn;exact propext ⟨fun h=>h.elim id (fun h=>by omega),.inl⟩
structure Still(w w':World):Prop where
 os:w'.os=w.os
 tape:w'.tape=w.tape
 output:w'.output=w.output
 heap:w'.heap=w.heap
theorem Still.refl(w:World):Still w w:=⟨rfl,rfl,rfl,rfl⟩
structure Alt(w w':World)(B:Nat)(o:Obj):Prop where
 os:w'.os=w.os
 tape:w'.tape=w.tape
 output:w'.output=w.output
 size:w'.heap.size=w.heap.size
 here:w'.heap[B]? =some o
 other:∀B',B'≠B->w'.heap[B']? =w.heap[B']?
structure Add(w w':World)(o:Obj):Prop where
 os:w'.os=w.os
 tape:w'.tape=w.tape
 output:w'.output=w.output
 size:w'.heap.size=w.heap.size+1
 here:w'.heap[w.heap.size]? =some o
 other:∀B,B<w.heap.size->w'.heap[B]? =w.heap[B]?
theorem Add.push(w:World)(o:Obj):Add w {w with heap:=w.heap.push o} o:=
 ⟨rfl,rfl,rfl,by simp,by simp,fun B h=>by simp[Array.getElem?_push];omega⟩
theorem Add.drew{w w':World}{o:Obj}(h:Add w w' o)(n:Nat):Add w {w' with drawn:=n} o:=⟨h.os,h.tape,h.output,h.size,h.here,h.other⟩
section
variable {ρ:Env} {T:Nat->Nat->Prop} {s s':St} {w w':World}
theorem zj{s1:St}(h:Good ρ T s.heap.get w)(hs:s1.heap=s.heap)(hw:Still w w'):Good ρ T s1.heap.get w':=
 ⟨fun b x hb hT=>by rw[hs] at hb;exact(h.sat b x hb hT).mono (Env.le_refl ρ) (fun _ h=>h) (fun r _=>by rw[hw.heap]),fun b b' r r' x x' hx NJ hl hl' ht kH hr nL e=>by rw[hs] at hx NJ;exact h.inj b b' r r' x x' hx NJ hl hl' ht kH hr nL e,fun b r hb=>by rw[hw.heap];exact h.old b r hb⟩
theorem Post.same(h:Good ρ T s.heap.get w)(hs:s'.heap=s.heap)(hn:s'.n=s.n)(hw:Still w w'):Post ρ T s w ρ s' w':=
 ⟨Env.le_refl ρ,fun b r h=> .inl h,fun b r h1 h2 _=>(nomatch (h1.symm.trans h2)),by rw[hn,qx];exact zj h hs hw,rM.refl _ _ _ _ hw.os hw.tape hw.output hw.heap⟩
theorem aF.same(hs:s'.heap=s.heap)(hn:s'.n=s.n)(hl:s'.log=s.log):aF s s':=
 ⟨Nat.le_of_eq hn.symm,fun e he=>by rw[hl];exact he,fun h b hb=>by rw[hs];exact h b (by omega),fun _ b x h _=>by rw[hs,h];exact fq.refl _ _ _,fun _ b x' _ h hl=>⟨x',by rw[<-hs];exact h,hl⟩,fun _ e he=> .inl (by rw[<-hl];exact he),fun _ hb e he=>by rw[hn];exact hb e (by rw[<-hl];exact he)⟩
def Env.add(ρ:Env)(b:Nat)(r:RB):Env:=fun x=>if x=b then some r else ρ x
theorem Env.pg{b:Nat}{r:RB}(h:ρ b=none):ρ.le (ρ.add b r):=fun x q hq=>by
 unfold Env.add;by_cases hx:x=b
 ·subst hx;rw[h] at hq;cases hq
 ·rw[if_neg hx];exact hq
theorem Env.bz(b:Nat)(r:RB):(ρ.add b r) b=some r:=if_pos rfl
theorem Env.mQ{b x:Nat}(r:RB)(h:x≠b):(ρ.add b r) x=ρ x:=if_neg h
theorem nC(s:St)(x:bK)(b:Nat):(s.new x).heap.get b=if b=s.n then some x else s.heap.get b:=Tr.iD _ _ _ _
theorem dn(s:St)(c:Nat)(x:bK)(b:Nat):(s.put c x).heap.get b=if b=c then some x else s.heap.get b:=Tr.iD _ _ _ _
theorem RH{s:St}{b:Nat}{x:bK}(hw:ki s)(h:s.heap.get b=some x):b<s.n:=by
 rcases Nat.lt_or_ge b s.n with h1|h1
 ·exact h1
 ·rw[hw b h1] at h;cases h
theorem aF.new(s:St)(x:bK):aF s (s.new x):=
 ⟨Nat.le_succ _,fun _ h=>h,fun h b hb=>by
  have hb':s.n+1<=b:=hb;rw[nC,if_neg (by omega)];exact h b (by omega),fun hw b y h _=>by
  have:b≠s.n:=fun e=>by rw[hw b (by omega)] at h;cases h
  rw[nC,if_neg this,h];exact fq.refl _ _ _,fun _ b x' hb h hl=>by
  rw[nC,if_neg (by omega)] at h;exact⟨x',h,hl⟩,fun _ _ h=> .inl h,fun _ hb e he=>Nat.lt_succ_of_lt (hb e he)⟩
theorem aF.cv(s:St)(c:Nat)(x:bK)(hc:∃y,s.heap.get c=some y/\live y):aF s ((s.put c x).note (.all c)):=
 ⟨n_,fun _ h=>List.mem_cons_of_mem _ h,fun h b hb=>by
  show(s.put c x).heap.get b=none
  rw[dn];by_cases rf:b=c
  ·subst rf;obtain⟨y,hy,_⟩:=hc;rw[h b hb] at hy;cases hy
  ·rw[if_neg rf];exact h b hb,fun hw b y h hn=>by
  show fq _ b y ((s.put c x).heap.get b);rw[dn];by_cases rf:b=c
  ·subst rf;exact absurd (List.mem_cons_self ..) hn
  ·rw[if_neg rf,h];exact fq.refl _ _ _,fun _ b x' _ h hl=>by
  replace h:(s.put c x).heap.get b=some x':=h;rw[dn] at h;by_cases rf:b=c
  ·subst rf;exact hc
  ·rw[if_neg rf] at h;exact⟨x',h,hl⟩,fun _ e he=>by
  rcases List.mem_cons.1 he with rfl|he
  ·exact .inr (.inr hc)
  ·exact .inl he,fun hw hb e he=>by
  rcases List.mem_cons.1 he with rfl|he
  ·obtain⟨y,hy,_⟩:=hc;show c<s.n;exact RH hw hy
  ·exact hb e he⟩
theorem aF.write(s:St)(c:Nat){t:TypeId}{cs cs':List AV}{off n:Nat}(hc:s.heap.get c=some (.cells t cs))(hl:cs'.length=cs.length)(hk:∀i,¬(off<=i/\i<off+n)->cs'[i]? =cs[i]?):aF s ((s.put c (.cells t cs')).note (.wr c off n)):=
 ⟨n_,fun _ h=>List.mem_cons_of_mem _ h,fun h b hb=>by
  show(s.put c (.cells t cs')).heap.get b=none
  rw[dn];by_cases rf:b=c
  ·subst rf;rw[h b hb] at hc;cases hc
  ·rw[if_neg rf];exact h b hb,fun hw b y h hn=>by
  show fq _ b y ((s.put c (.cells t cs')).heap.get b);rw[dn];by_cases rf:b=c
  ·subst rf
   rw[if_pos rfl];rw[hc] at h;cases h;exact⟨cs',rfl,hl,fun i hi=>hk i (fun hh=>hi (.wr b off n) (List.mem_cons_self ..) ⟨rfl,hh⟩)⟩
  ·rw[if_neg rf,h];exact fq.refl _ _ _,fun _ b x' _ h hl2=>by
  replace h:(s.put c (.cells t cs')).heap.get b=some x':=h;rw[dn] at h;by_cases rf:b=c
  ·subst rf;exact⟨_,hc,trivial⟩
  ·rw[if_neg rf] at h;exact⟨x',h,hl2⟩,fun _ e he=>by
  rcases List.mem_cons.1 he with rfl|he
  ·exact .inr (.inr ⟨_,hc,trivial⟩)
  ·exact .inl he,fun hw hb e he=>by
  rcases List.mem_cons.1 he with rfl|he
  ·show c<s.n;exact RH hw hc
  ·exact hb e he⟩
theorem aF.note(s:St)(e:LE)(hc:∃y,s.heap.get e.blk=some y/\live y):aF s (s.note e):=⟨n_,fun _ h=>List.mem_cons_of_mem _ h,fun h b hb=>h b hb,fun _ b x h _=>by
 show fq _ b x (s.heap.get b);rw[h];exact fq.refl _ _ _,fun _ b x' _ h hl=>⟨x',h,hl⟩,fun _ e he=>by
 rcases List.mem_cons.1 he with rfl|he
 ·exact .inr (.inr hc)
 ·exact .inl he,fun hw hb e he=>by
 rcases List.mem_cons.1 he with rfl|he
 ·obtain⟨y,hy,_⟩:=hc;show _<s.n;exact RH hw hy
 ·exact hb e he⟩
theorem mR{n n' b:Nat}(hb:b<n)(h:∃i,Tn T n n' b i):∃i,T b i:=by
 obtain⟨i,h|h⟩:=h
 ·exact⟨i,h⟩
 ·omega
theorem Post.made{x:bK}{o:Obj}{r:RB}(h:Good ρ T s.heap.get w)(bf:ki s)(hf:ρ s.n=none)(htn:∀b i,T b i->b<s.n)(hw:Add w w' o)(hr:r.blk=w.heap.size)(hx:BR (ρ.add s.n r) (fun _=>True) s.n w' x):Post ρ T s w (ρ.add s.n r) (s.new x) w':=by
 have hle:=Env.pg (r:=r) hf;refine⟨hle,fun b q hb=> ?_,fun b q h1 h2 hlt=> ?_,⟨fun b y hb hT=> ?_,fun b b' q q' y y' hy hy' hl hl' ht kH hq hq' e=> ?_,fun b q hb=> ?_⟩,⟨hw.os,hw.tape,hw.output,by have:=hw.size;omega,fun B hB _=>hw.other B hB,fun B c t fr hc _=>⟨c,(hw.other B (jb hc)).trans hc,rfl,fun _ _=>rfl⟩⟩⟩
 ·by_cases tW:b=s.n
  ·subst tW;exact .inr ⟨n_,Nat.lt_succ_self _⟩
  ·rw[Env.mQ r tW] at hb;exact .inl hb
 ·by_cases tW:b=s.n
  ·subst tW
   rw[Env.bz] at h2;cases h2;omega
  ·rw[Env.mQ r tW,h1] at h2;cases h2
 ·rw[nC] at hb
  by_cases tW:b=s.n
  ·subst tW
   rw[if_pos rfl] at hb;cases hb;exact hx.mono (Env.le_refl _) (fun _ _=>trivial) (fun _ _=>rfl)
  ·rw[if_neg tW] at hb
   have hbo:b<s.n:=by
    rcases Nat.lt_or_ge b s.n with h1|h1
    ·exact h1
    ·rw[bf b h1] at hb;cases hb
   refine(h.sat b y hb (mR hbo hT)).mono hle (fun i hi=> ?_) (fun q hq=>hw.other _ (h.old b q hq))
   rcases hi with hi|hi
   ·exact hi
   ·omega
 ·rw[nC] at hy hy'
  have key:∀b y q,(if b=s.n then some x else s.heap.get b)=some y->(ρ.add s.n r) b=some q->(b=s.n/\q=r)\/(b≠s.n/\b<s.n/\s.heap.get b=some y/\ρ b=some q):=fun b y q hy hq=>by
   by_cases hb:b=s.n
   ·subst hb;rw[Env.bz] at hq;cases hq;exact .inl ⟨rfl,rfl⟩
   ·rw[if_neg hb] at hy
    rw[Env.mQ r hb] at hq;refine .inr ⟨hb,?_,hy,hq⟩;rcases Nat.lt_or_ge b s.n with h1|h1
    ·exact h1
    ·rw[bf b h1] at hy;cases hy
  rcases key b y q hy hq with⟨h1,h2⟩|⟨h1,h2,h3,h4⟩<;>rcases key b' y' q' hy' hq' with⟨YU,NK⟩|⟨YU,NK,h3',h4'⟩
  ·omega
  ·have:=h.old _ _ h4';rw[h2] at e;omega
  ·have:=h.old _ _ h4;rw[NK] at e;omega
  ·exact h.inj b b' q q' y y' h3 h3' hl hl' (mR h2 ht) (mR NK kH) h4 h4' e
 ·have:=hw.size
  by_cases tW:b=s.n
  ·subst tW;rw[Env.bz] at hb;cases hb;omega
  ·rw[Env.mQ r tW] at hb;have:=h.old b q hb;omega
theorem Post.alt{x x':bK}{b:Nat}{o:Obj}{r:RB}(h:Good ρ T s.heap.get w)(hb:s.heap.get b=some x)(hl:live x)(hT:∃i,T b i)(hr:ρ b=some r)(hw:Alt w w' r.blk o)(hx:BR ρ (T b) b w' x'):Post ρ T s w ρ ((s.put b x').note (.all b)) w':=by
 refine⟨Env.le_refl ρ,fun c q hc=> .inl hc,fun c q h1 h2 _=>(nomatch (h1.symm.trans h2)),?_,⟨hw.os,hw.tape,hw.output,Nat.le_of_eq hw.size.symm,fun B hB hn=> ?_,fun B c t fr hc MM=> ?_⟩⟩
 ·show Good ρ (Tn T s.n s.n) _ _
  rw[qx];refine⟨fun c y hc Vr=> ?_,fun c c' q q' y y' hy hy' dF hl' ht kH hq hq' e=> ?_,fun c q hc=>by rw[hw.size];exact h.old c q hc⟩
  ·replace hc:(s.put b x').heap.get c=some y:=hc
   rw[dn] at hc;by_cases hcb:c=b
   ·subst hcb;rw[if_pos rfl] at hc;cases hc;exact hx
   ·rw[if_neg hcb] at hc
    by_cases hly:live y
    ·refine(h.sat c y hc Vr).mono (Env.le_refl ρ) (fun _ h=>h) (fun q hq=>hw.other _ (fun e=>hcb (h.inj c b q r y x hc hb hly hl Vr hT hq hr e)))
    ·cases y<;>first|exact trivial|exact absurd trivial hly
  ·replace hy:(s.put b x').heap.get c=some y:=hy
   replace hy':(s.put b x').heap.get c'=some y':=hy';rw[dn] at hy hy'
   have key:∀c y,(if c=b then some x' else s.heap.get c)=some y->live y->∃z,s.heap.get c=some z/\live z:=fun c y hy dF=>by
    by_cases hcb:c=b
    ·subst hcb;exact⟨x,hb,hl⟩
    ·rw[if_neg hcb] at hy;exact⟨y,hy,dF⟩
   obtain⟨z,h1,h2⟩:=key c y hy dF;obtain⟨z',YU,NK⟩:=key c' y' hy' hl';exact h.inj c c' q q' z z' h1 YU h2 NK ht kH hq hq' e
 ·refine hw.other B (fun e=>hn 0 ⟨.all b,List.mem_cons_self ..,r,hr,e.symm,trivial⟩)
 ·exact⟨c,(hw.other B (fun e=>MM ⟨b,r,List.mem_cons_self ..,hr,e.symm⟩)).trans hc,rfl,fun _ _=>rfl⟩
theorem Post.kill{x:bK}{b:Nat}(h:Good ρ T s.heap.get w)(hb:s.heap.get b=some x)(hl:live x)(hw:Still w w'):Post ρ T s w ρ ((s.put b .dead).note (.all b)) w':=by
 refine⟨Env.le_refl ρ,fun c q hc=> .inl hc,fun c q h1 h2 _=>(nomatch (h1.symm.trans h2)),?_,rM.refl _ _ _ _ hw.os hw.tape hw.output hw.heap⟩;show Good ρ (Tn T s.n s.n) _ _;rw[qx];refine⟨fun c y hc Vr=> ?_,fun c c' q q' y y' hy hy' dF hl' ht kH hq hq' e=> ?_,fun c q hc=>by rw[hw.heap];exact h.old c q hc⟩
 ·replace hc:(s.put b .dead).heap.get c=some y:=hc
  rw[dn] at hc;by_cases hcb:c=b
  ·rw[if_pos hcb] at hc;cases hc;exact trivial
  ·rw[if_neg hcb] at hc
   exact(h.sat c y hc Vr).mono (Env.le_refl ρ) (fun _ h=>h) (fun q _=>by rw[hw.heap])
 ·replace hy:(s.put b .dead).heap.get c=some y:=hy
  replace hy':(s.put b .dead).heap.get c'=some y':=hy';rw[dn] at hy hy'
  have key:∀c y,(if c=b then some .dead else s.heap.get c)=some y->live y->s.heap.get c=some y:=fun c y hy dF=>by
   by_cases hcb:c=b
   ·rw[if_pos hcb] at hy;cases hy;exact dF.elim
   ·rwa [if_neg hcb] at hy
  exact h.inj c c' q q' y y' (key c y hy dF) (key c' y' hy' hl') dF hl' ht kH hq hq' e
theorem Post.write{t:TypeId}{cs cs':List AV}{b off n:Nat}{r:RB}{c c':Array Value}{fr:Nat×Nat}(h:Good ρ T s.heap.get w)(hb:s.heap.get b=some (.cells t cs))(hT:∃i,T b i)(hr:ρ b=some r)(hc:w.heap[r.blk]? =some (.cells c (t/2) fr))(hw:Alt w w' r.blk (.cells c' (t/2) fr))(hz:c'.size=c.size)(hs:∀o,¬(r.base+off<=o/\o<r.base+off+n)->c'[o]? =c[o]?)(hn:0<n)(hl:cs'.length=cs.length)(hv:∀i a,cs'[i]? =some a->T b i->∃v,c'[r.base+i]? =some v/\VR ρ a v):Post ρ T s w ρ ((s.put b (.cells t cs')).note (.wr b off n)) w':=by
 have jcs:=h.sat b _ hb hT;obtain⟨r0,c0,fr0,g1,g2,g3,g4,g5,g6⟩:=jcs;have e1:r0=r:=i_ (g1.symm.trans hr);subst e1;have e2:Obj.cells c0 (t/2) fr0= .cells c (t/2) fr:=i_ (g2.symm.trans hc);simp only[Obj.cells.injEq] at e2;obtain⟨e2,_,e3⟩:=e2;subst e2 e3;refine⟨Env.le_refl ρ,fun c q hc=> .inl hc,fun c q h1 h2 _=>(nomatch (h1.symm.trans h2)),?_,⟨hw.os,hw.tape,hw.output,Nat.le_of_eq hw.size.symm,fun B hB hno=> ?_,fun B c1 t1 fr1 hc1 MM=> ?_⟩⟩
 ·show Good ρ (Tn T s.n s.n) _ _
  rw[qx];refine⟨fun c y WW Vr=> ?_,fun c c' q q' y y' hy hy' dF hl' ht kH hq hq' e=> ?_,fun c q hc=>by rw[hw.size];exact h.old c q hc⟩
  ·replace WW:(s.put b (.cells t cs')).heap.get c=some y:=WW
   rw[dn] at WW;by_cases hcb:c=b
   ·subst hcb
    rw[if_pos rfl] at WW;cases WW;exact⟨r0,c',fr0,hr,hw.here,by rw[hz];exact g3,by rw[hl];exact g4,fun o h1 h2=>g5 o h1 (by rw[<-hz];exact h2),hv⟩
   ·rw[if_neg hcb] at WW
    by_cases hly:live y
    ·refine(h.sat c y WW Vr).mono (Env.le_refl ρ) (fun _ h=>h) (fun q hq=>hw.other _ (fun e=>hcb (h.inj c b q r0 y _ WW hb hly trivial Vr hT hq hr e)))
    ·cases y<;>first|exact trivial|exact absurd trivial hly
  ·replace hy:(s.put b (.cells t cs')).heap.get c=some y:=hy
   replace hy':(s.put b (.cells t cs')).heap.get c'=some y':=hy';rw[dn] at hy hy'
   have key:∀c y,(if c=b then some (.cells t cs') else s.heap.get c)=some y->live y->∃z,s.heap.get c=some z/\live z:=fun c y hy dF=>by
    by_cases hcb:c=b
    ·subst hcb;exact⟨_,hb,trivial⟩
    ·rw[if_neg hcb] at hy;exact⟨y,hy,dF⟩
   obtain⟨z,h1,h2⟩:=key c y hy dF;obtain⟨z',YU,NK⟩:=key c' y' hy' hl';exact h.inj c c' q q' z z' h1 YU h2 NK ht kH hq hq' e
 ·refine hw.other B (fun e=>hno (r0.base+off) ⟨.wr b off n,List.mem_cons_self ..,r0,hr,e.symm,n_,by omega⟩)
 ·by_cases hB:B=r0.blk
  ·subst hB
   rw[hc] at hc1;cases hc1;exact⟨c',hw.here,hz,fun o ho=>hs o (fun hh=>ho ⟨.wr b off n,List.mem_cons_self ..,r0,hr,rfl,hh⟩)⟩
  ·exact⟨c1,(hw.other B hB).trans hc1,rfl,fun _ _=>rfl⟩
theorem Post.jbo{x y:bK}{b:Nat}{o:Obj}{r q:RB}(h:Good ρ T s.heap.get w)(bf:ki s)(hf:ρ s.n=none)(hb:s.heap.get b=some x)(hl:live x)(hT:∃i,T b i)(hr:ρ b=some r)(hw:Alt w w' r.blk o)(hq:q.blk=r.blk)(tW:b<s.n)(hx:BR (ρ.add s.n q) (fun _=>True) s.n w' y):Post ρ T s w (ρ.add s.n q) (((s.put b .dead).note (.all b)).new y) w':=by
 have hle:=Env.pg (r:=q) hf
 have gZ:∀c,(((s.put b .dead).note (.all b)).new y).heap.get c=if c=s.n then some y else if c=b then some .dead else s.heap.get c:=fun c=>by
  rw[nC];show(if c=s.n then _ else(s.put b .dead).heap.get c)=_
  rw[dn]
 have hall:All ρ (((s.put b .dead).note (.all b)).new y).log r.blk:=⟨b,r,List.mem_cons_self ..,hr,rfl⟩
 have key:∀c z p,(if c=s.n then some y else if c=b then some .dead else s.heap.get c)=some z->live z->(ρ.add s.n q) c=some p->(c=s.n/\p=q)\/(c≠s.n/\c<s.n/\c≠b/\s.heap.get c=some z/\ρ c=some p):=fun c z p hz hlz hp=>by
  by_cases hc:c=s.n
  ·subst hc;rw[Env.bz] at hp;cases hp;exact .inl ⟨rfl,rfl⟩
  ·rw[if_neg hc] at hz
   rw[Env.mQ q hc] at hp;by_cases hcb:c=b
   ·rw[if_pos hcb] at hz;cases hz;exact hlz.elim
   ·rw[if_neg hcb] at hz
    refine .inr ⟨hc,?_,hcb,hz,hp⟩;rcases Nat.lt_or_ge c s.n with h1|h1
    ·exact h1
    ·rw[bf c h1] at hz;cases hz
 refine⟨hle,fun c p hc=> ?_,fun c p h1 h2 hlt=> ?_,⟨fun c z hc Vr=> ?_,fun c c' p p' z z' hz hz' dF hl' ht kH hp hp' e=> ?_,fun c p hc=> ?_⟩,⟨hw.os,hw.tape,hw.output,Nat.le_of_eq hw.size.symm,fun B hB hn=> ?_,fun B c1 t1 fr1 hc1 MM=> ?_⟩⟩
 ·by_cases L0:c=s.n
  ·subst L0;exact .inr ⟨n_,Nat.lt_succ_self _⟩
  ·rw[Env.mQ q L0] at hc;exact .inl hc
 ·by_cases L0:c=s.n
  ·subst L0
   rw[Env.bz] at h2;cases h2;rw[hq];exact hall
  ·rw[Env.mQ q L0,h1] at h2;cases h2
 ·rw[gZ] at hc
  by_cases L0:c=s.n
  ·subst L0
   rw[if_pos rfl] at hc;cases hc;exact hx.mono (Env.le_refl _) (fun _ _=>trivial) (fun _ _=>rfl)
  ·by_cases hcb:c=b
   ·rw[if_neg L0,if_pos hcb] at hc;cases hc;exact trivial
   ·rw[if_neg L0,if_neg hcb] at hc
    have RJ:c<s.n:=by
     rcases Nat.lt_or_ge c s.n with h1|h1
     ·exact h1
     ·rw[bf c h1] at hc;cases hc
    have hTo:=mR RJ Vr;by_cases hlz:live z
    ·refine(h.sat c z hc hTo).mono hle (fun i hi=> ?_) (fun p hp=>hw.other _ (fun e=>hcb (h.inj c b p r z x hc hb hlz hl hTo hT hp hr e)))
     rcases hi with hi|hi
     ·exact hi
     ·omega
    ·cases z<;>first|exact trivial|exact absurd trivial hlz
 ·rw[gZ] at hz hz'
  rcases key c z p hz dF hp with⟨h1,h2⟩|⟨h1,h2,h3,h4,h5⟩<;>rcases key c' z' p' hz' hl' hp' with⟨YU,NK⟩|⟨YU,NK,h3',h4',h5'⟩
  ·omega
  ·exact absurd (h.inj c' b p' r z' x h4' hb hl' hl (mR NK kH) hT h5' hr (by rw[<-e,h2,hq])) h3'
  ·exact absurd (h.inj c b p r z x h4 hb dF hl (mR h2 ht) hT h5 hr (by rw[e,NK,hq])) h3
  ·exact h.inj c c' p p' z z' h4 h4' dF hl' (mR h2 ht) (mR NK kH) h5 h5' e
 ·rw[hw.size]
  by_cases L0:c=s.n
  ·subst L0;rw[Env.bz] at hc;cases hc;rw[hq];exact h.old b r hr
  ·rw[Env.mQ q L0] at hc;exact h.old c p hc
 ·exact hw.other B (fun e=>hn 0 (e▸hall.wrt 0))
 ·exact⟨c1,(hw.other B (fun e=>MM (e▸hall))).trans hc1,rfl,fun _ _=>rfl⟩
end
section
variable {P:Program} {ρ:Env} {w:World}
theorem qy{t:TypeId}{i:TypeInfo}(h:P.info? t=some i)(w:World):(typeInfo t).run P w= .ok i w:=by
 simp[typeInfo,h]
theorem bW{t:TypeId}{n:Nat}(h:lF P t=some n)(w:World):(sizeOf t).run P w= .ok n w:=by
 unfold lF at h;cases hi:P.info? t with
 |none=>rw[hi] at h;simp at h
 |some i=>rw[hi] at h;simp at h;subst h;simp[sizeOf,qy hi]
theorem nD{t:TypeId}{g:Bool}(h:Vb P t=some g)(w:World):(isAgg t).run P w= .ok g w:=by
 unfold Vb at h;cases hd:P.underlying t with
 |none=>rw[hd] at h;simp at h
 |some d=>
  rw[hd] at h;simp only[Option.map_some,Option.some.injEq] at h;subst h;cases d<;>simp[isAgg,run_underlying hd,Va]
theorem wL{t:TypeId}{z:AV}(h:sF P t=some z)(w:World):∃v,(zeroValue t).run P w= .ok v w/\z=SZ 3 v/\VR ρ z v:=by
 unfold sF at h;cases hi:P.info? t with
 |none=>rw[hi] at h;simp at h
 |some i=>
  rw[hi] at h;cases hz:i.zero with
  |none=>simp[hz] at h
  |some v=>
   simp[hz] at h;exact⟨v,by simp[zeroValue,qy hi,hz],h.symm,h▸BH 3 v⟩
theorem ov{l k:List Nat}(hl:∀x∈l,x<256)(hk:∀x∈k,x<256):(l.map UInt8.ofNat=k.map UInt8.ofNat)<->l=k:=by
 constructor
 ·intro h
  have:=congrArg (List.map UInt8.toNat) h;rw[List.map_map,List.map_map] at this
  have e:∀m:List Nat,(∀x∈m,x<256)->m.map (UInt8.toNat∘UInt8.ofNat)=m:=fun m hm=>by
   conv=>rhs;rw[<-List.map_id m]
   refine List.map_congr_left fun x hx=> ?_;have:=hm x hx;simp;omega
  rwa [e l hl,e k hk] at this
 ·rintro rfl;rfl
theorem jbp{a b:Nat}(ha:a<256)(hb:b<256):(UInt8.ofNat a<UInt8.ofNat b)<->a<b:=by
 rw[UInt8.lt_iff_toNat_lt];simp;omega
theorem jbq{a b:Nat}(ha:a<256)(hb:b<256):(UInt8.ofNat a=UInt8.ofNat b)<->a=b:=by
 rw[<-UInt8.toNat_inj];simp;omega
theorem ET:∀(l k:List Nat),(∀x∈l,x<256)->(∀x∈k,x<256)->Op.bytesLess (l.map UInt8.ofNat) (k.map UInt8.ofNat)=strLt l k
 |l,[],_,_=>by cases l<;>simp[Op.bytesLess,strLt]
 |[],y::k,_,_=>by simp[Op.bytesLess,strLt]
 |x::l,y::k,hl,hk=>by
  have hx:=hl x (by simp);have hy:=hk y (by simp);have ih:=ET l k (fun z hz=>hl z (by simp[hz])) (fun z hz=>hk z (by simp[hz]));simp only[List.map_cons,Op.bytesLess,strLt,ih];congr 1
  ·exact decide_eq_decide.2 (jbp hx hy)
  ·congr 1
   rw[Bool.eq_iff_iff];simp[jbq hx hy]
theorem Iw(l k:List Nat)(hl:∀x∈l,x<256)(hk:∀x∈k,x<256):((⟨(l.map UInt8.ofNat).toArray⟩:ByteArray).toList==(⟨(k.map UInt8.ofNat).toArray⟩:ByteArray).toList)=decide (l=k):=by
 rw[ByteArray.toList_eq,ByteArray.toList_eq,Bool.eq_iff_iff];simp[ov hl hk]
theorem YV{op:BinOp}{k j:IntKind}{x y:Int}{t:TypeId}{v:AV}(h:iop op k x y=some v)(hk:(decide (k=j)||Bv op)=true):∃v',(binOp op t (.int k x) (.int j y)).run P w= .ok v' w/\VR ρ v v':=by
 have hk2:Bv op=false->k=j:=fun h=>by rw[h] at hk;simpa using hk
 cases op<;>simp only[iop,Option.some.injEq] at h
 case shl=>
  split at h
  ·cases h
  ·rename_i hy
   cases h;exact⟨_,by simp[binOp,Op.shift,hy],.int _ _⟩
 case shr=>
  split at h
  ·cases h
  ·rename_i hy
   cases h;exact⟨_,by simp[binOp,Op.shift,hy],.int _ _⟩
 case quo=>
  split at h
  ·cases h
  ·rename_i hy
   cases h;have:=hk2 rfl;subst this;exact⟨_,by simp[binOp,Op.intDiv,hy],.int _ _⟩
 case rem=>
  split at h
  ·cases h
  ·rename_i hy
   cases h;have:=hk2 rfl;subst this;exact⟨_,by simp[binOp,Op.intDiv,hy],.int _ _⟩
 all_goals
  have:=hk2 rfl;subst this;subst h
  first
  |exact⟨_,rfl,.int _ _⟩
  |exact⟨_,rfl,.bool _⟩
  |(refine⟨_,?_,.int _ _⟩;simp only[binOp,ne_eq,not_true_eq_false,if_false];rfl)
  |(refine⟨_,?_,.bool _⟩;simp only[binOp,ne_eq,not_true_eq_false,if_false];rfl)
theorem YW{op:BinOp}{x y:List Nat}{t:TypeId}{v:AV}(h:sop op x y=some v)(hx:∀z∈x,z<256)(hy:∀z∈y,z<256):
 ∃v',(binOp op t (.string ⟨(x.map UInt8.ofNat).toArray⟩) (.string ⟨(y.map UInt8.ofNat).toArray⟩)).run P w= .ok v' w/\VR ρ v v':=by
 have he:=Iw x y hx hy
 have hl:Op.bytesLess (⟨(x.map UInt8.ofNat).toArray⟩:ByteArray).toList (⟨(y.map UInt8.ofNat).toArray⟩:ByteArray).toList=strLt x y:=by
  rw[ByteArray.toList_eq,ByteArray.toList_eq];exact ET x y hx hy
 cases op<;>simp only[sop,Option.some.injEq,reduceCtorEq] at h
 case add=>
  split at h
  ·rename_i hlen
   cases h;refine⟨.string (⟨(x.map UInt8.ofNat).toArray⟩++⟨(y.map UInt8.ofNat).toArray⟩),?_,?_⟩
   ·have:¬(((⟨(x.map UInt8.ofNat).toArray⟩:ByteArray).size+(⟨(y.map UInt8.ofNat).toArray⟩:ByteArray).size:Nat):Int)>IntKind.i64.max:=by
     have h1:(⟨(x.map UInt8.ofNat).toArray⟩:ByteArray).size=x.length:=by simp[ByteArray.size]
     have h2:(⟨(y.map UInt8.ofNat).toArray⟩:ByteArray).size=y.length:=by simp[ByteArray.size]
     rw[h1,h2];have:IntKind.i64.max=9223372036854775807:=by decide
     rw[this];omega
    simp only[binOp,Op.stringOp,if_neg this];rfl
   ·have e:(⟨(x.map UInt8.ofNat).toArray⟩:ByteArray)++⟨(y.map UInt8.ofNat).toArray⟩=⟨((x++y).map UInt8.ofNat).toArray⟩:=by
     apply ByteArray.ext;rw[ByteArray.data_append];simp
    rw[e]
    exact .str _ (fun z hz=>by
     rcases List.mem_append.1 hz with h|h
     ·exact hx z h
     ·exact hy z h)
  ·cases h
 all_goals
  subst h;exact⟨_,by simp only[binOp,Op.stringOp,he,hl,Sem.run_pure],.bool _⟩
theorem M0{t:TypeId}{d:TypeDesc}(hd:P.underlying t=some d)(x y:Value):(Op.equal t x y).run P w=((match d,x,y with
  | .bool,.bool a,.bool b=> .ok (a==b) w
  | .pointer _,.pointer none,.pointer b=> .ok b.isNone w
  | .pointer _,.pointer _,.pointer none=> .ok false w
  | .interface _,.nilIface,.nilIface=> .ok true w
  | .interface _,.nilIface,.iface _ _=> .ok false w
  | .interface _,.iface _ _,.nilIface=> .ok false w
  | .slice _,.slice none _ _,.slice b _ _=> .ok b.isNone w
  | .slice _,.slice _ _ _,.slice none _ _=> .ok false w
  | .map _ _,.map none,.map b=> .ok b.isNone w
  | .map _ _,.map _,.map none=> .ok false w
  | .func _ _ _,.nilFunc,.nilFunc=> .ok true w
  | .func _ _ _,.nilFunc,.func _ _ _=> .ok false w
  | .func _ _ _,.func _ _ _,.nilFunc=> .ok false w
  |_,_,_=>(Op.equal t x y).run P w):Result Bool):=by
 split<;>first|rfl|skip
 all_goals
  show(Op.equalIn (9999+1) t _ _).run P w=_
  unfold Op.equalIn;rw[Sem.run_bind,run_underlying (by assumption)]
  try rfl
 all_goals
  first
  |(cases‹Option Addr›<;>first|rfl|(exfalso;simp_all;done))
  |(cases‹Option Nat›<;>first|rfl|(exfalso;simp_all;done))
theorem RM{d:TypeDesc}{known:Bool}{t:TypeId}{x y:AV}{x' y':Value}{b:Bool}(h:bJ d known x y=some b)(hd:P.underlying t=some d)(hx:VR ρ x x')(hy:VR ρ y y'):(Op.equal t x' y').run P w= .ok b w:=by
 rw[M0 hd];unfold bJ at h;split at h
 case h_4=>
  split at h
  ·cases hx;cases hy;cases h;rfl
  ·cases h
 all_goals first|(cases h;done)|skip
 all_goals
  cases hx;cases hy;cases h;rfl
theorem EU{α:Type}{c:Prop}[Decidable c]{x y r:α}(h1:c->x=r)(h2:¬c->y=r):(if c then x else y)=r:=by
 by_cases h:c
 ·rw[if_pos h];exact h1 h
 ·rw[if_neg h];exact h2 h
theorem mS{op:BinOp}{t:TypeId}{X Y:Operand}{x' y':Value}(ha:∀a b,¬(x'= .agg a/\y'= .agg b))(hn:¬(x'= .nilIface/\y'= .nilIface)):(eqGuard op t X Y x' y').run P w= .ok () w:=by
 unfold eqGuard;simp only[Sem.run_ite,Sem.run_pure];refine EU (fun _=>rfl) (fun _=> ?_);split
 ·exact absurd ⟨rfl,rfl⟩ hn
 ·exact absurd ⟨rfl,rfl⟩ (ha _ _)
 ·rfl
theorem EW{op:BinOp}{t:TypeId}{X Y:Operand}(h:(isConst X||isConst Y)=true):(eqGuard op t X Y .nilIface .nilIface).run P w= .ok () w:=by
 unfold eqGuard;simp only[Sem.run_bind,Sem.run_ite,Sem.run_pure];refine EU (fun _=>rfl) (fun _=> ?_);cases X<;>cases Y<;>first|(simp[isConst] at h;done)|rfl|(simp;done)
theorem zk{d:TypeDesc}{op:BinOp}{t:TypeId}{X Y:Operand}{x y:AV}{x' y':Value}{b:Bool}(h:bJ d (isConst X||isConst Y) x y=some b)(hx:VR ρ x x')(hy:VR ρ y y'):(eqGuard op t X Y x' y').run P w= .ok () w:=by
 unfold bJ at h;split at h
 case h_4=>
  split at h
  ·rename_i hk
   cases hx;cases hy;exact EW hk
  ·cases h
 all_goals first|(cases h;done)|skip
 all_goals
  cases hx;cases hy;exact mS (fun a b h=>by cases h.1) (fun h=>by first|(cases h.1;done)|(cases h.2;done))
theorem iK{t:TypeId}{d:TypeDesc}{xs:Array Value}{i:Nat}{v:Value}(hd:P.underlying t=some d)(ha:Va d=false)(hv:xs[i]? =some v)(w:World):(part t xs i).run P w= .ok v w:=by
 have h1:(isAgg t).run P w= .ok false w:=by
  unfold isAgg;rw[Sem.run_bind,run_underlying hd];cases d<;>first|rfl|cases ha
 simp[part,h1,hv]
theorem fX{d:TypeDesc}{x:AV}(h:i6 d x=true):Va d=false:=by
 cases d<;>first|rfl|(cases x<;>cases h)
theorem nE{d:TypeDesc}{t:TypeId}{n:Nat}{x y:AV}{x' y':Value}{b:Bool}(hd:P.underlying t=some d)(hk:i6 d x=true)(h:kM x y=some b)(hx:VR ρ x x')(hy:VR ρ y y')(w:World):
 (Op.equalIn (n+1) t x' y').run P w= .ok b w/\Instr.sameNow d x' y'=some b/\(b=true->y'=x'):=by
 unfold kM at h;split at h
 ·rename_i l m
  cases h;cases hx with
  |str _ hl=>cases hy with
   |str _ hm=>
    have hs:d= .string:=by cases d<;>first|rfl|cases hk
    subst hs;refine⟨by rw[run_equalIn_string _ _ _ _ _ hd,Iw _ _ hl hm],?_,fun h=>by rw[of_decide_eq_true h]⟩;show some _=some _;rw[beq_toListBytes,Iw _ _ hl hm]
 ·rename_i k a j c
  cases hx;cases hy;split at h
  ·rename_i hkj
   subst hkj;cases h;have hs:∃q,d= .int q:=by cases d<;>first|exact⟨_,rfl⟩|cases hk
   obtain⟨q,rfl⟩:=hs;exact⟨run_equalIn_int _ _ _ _ _ _ _ hd,by simp[Instr.sameNow],fun h=>by rw[eq_of_beq h]⟩
  ·cases h
 ·rename_i a c
  cases hx;cases hy;cases h;have hs:d= .bool:=by cases d<;>first|rfl|cases hk
  subst hs;exact⟨run_equalIn_bool' _ _ _ _ _ hd,by simp[Instr.sameNow],fun h=>by rw[eq_of_beq h]⟩
 ·cases h
theorem wM{n:Nat}{xs ys:Array Value}(w:World):∀{fs:List Field} {cs ds:List AV} {i:Nat} {b:Bool} {cs' YX:List Value},iC P fs cs i=true->ny cs ds=some b->bO ρ cs cs'->bO ρ ds YX->
 (∀j v,cs'[j]? =some v->xs[i+j]? =some v)->(∀j v,YX[j]? =some v->ys[i+j]? =some v)->(Op.eqFields (n+1) xs ys fs).run P w= .ok b w/\(b=true->YX=cs')
 |[],[],ds,i,b,cs',YX,hk,h,hx,hy,h1,h2=>by
  cases hx;cases ds with
  |nil=>cases hy;cases h;exact⟨rfl,fun _=>rfl⟩
  |cons _ _=>cases h
 |[],_::_,ds,i,b,cs',YX,hk,h,hx,hy,h1,h2=>by cases hk
 |_::_,[],ds,i,b,cs',YX,hk,h,hx,hy,h1,h2=>by cases hk
 |f::fs,c::cs,ds,i,b,cs',YX,hk,h,hx,hy,h1,h2=>by
  cases ds with
  |nil=>cases h
  |cons d ds=>
   cases hx with
   |cons _ v _ vs g1 g2=>cases hy with
    |cons _ u _ us q1 q2=>
     simp only[iC,Bool.and_eq_true,bne_iff_ne,ne_eq,decide_eq_true_eq] at hk;obtain⟨⟨⟨k1,k2⟩,k3⟩,k4⟩:=hk;cases hu:P.underlying f.type with
     |none=>rw[hu] at k3;cases k3
     |some e=>
      rw[hu] at k3;have p1:=iK hu (fX k3) (h1 0 v rfl) w;have p2:=iK hu (fX k3) (h2 0 u rfl) w;rw[Nat.add_zero] at p1 p2;unfold ny at h;cases hc:kM c d with
      |none=>rw[hc] at h;cases h
      |some b0=>
       rw[hc] at h;obtain⟨r1,_,r2⟩:=nE (n:=n) hu k3 hc g1 q1 w;cases b0 with
       |false=>
        cases h;refine⟨?_,fun h=>by cases h⟩;unfold Op.eqFields;rw[if_pos k1,k2];simp only[Sem.run_bind,p1,p2,Result.andThen_ok,r1];rfl
       |true=>
        obtain⟨e1,e2⟩:=wM w k4 h g2 q2 (fun j v hv=>by rw[show i+1+j=i+(j+1) by omega];exact h1 (j+1) v (by simpa using hv)) (fun j v hv=>by rw[show i+1+j=i+(j+1) by omega];exact h2 (j+1) v (by simpa using hv));refine⟨?_,fun h=>by rw[r2 rfl,e2 h]⟩;unfold Op.eqFields;rw[if_pos k1,k2];simp only[Sem.run_bind,p1,p2,Result.andThen_ok,r1];exact e1
theorem BN{t:TypeId}{fs:Array Field}{cs ds:List AV}{xs ys:Array Value}{b:Bool}{n:Nat}(hu:P.underlying t=some (.struct fs))(hs:P.stoodInHeld t=false)(hk:iC P fs.toList cs 0=true)(h:ny cs ds=some b)(hx:bO ρ cs xs.toList)(hy:bO ρ ds ys.toList)(w:World):
 (Op.equalIn (n+2) t (.agg xs) (.agg ys)).run P w= .ok b w/\(b=true->ys=xs):=by
 have hf:P.fieldsOf t=fs:=by simp[Program.fieldsOf,hu]
 obtain⟨h1,h2⟩:=wM (n:=n) (xs:=xs) (ys:=ys) w hk h hx hy (fun j v hv=>by simpa using hv) (fun j v hv=>by simpa using hv);refine⟨?_,fun h=>Array.ext' (h2 h)⟩;rw[run_equalIn_struct w (n+1) t xs ys (by rw[hf];exact hu) hs,hf];exact h1
theorem zn:∀{n:Nat} {l r:List AV},takeN n l=some r->r=l.take n/\n<=l.length
 |0,l,r,h=>by simp[takeN] at h;subst h;simp
 |n+1,x::l,r,h=>by
  unfold takeN at h;split at h
  ·rename_i r' hr
   cases h;obtain⟨h1,h2⟩:=zn hr;subst h1;simpa using h2
  ·cases h
 |n+1,[],r,h=>by simp[takeN] at h
theorem BO{cs r:List AV}{off n:Nat}(h:Vc cs off n=some r):r=(cs.drop off).take n/\(n=0\/off+n<=cs.length):=by
 obtain⟨h1,h2⟩:=zn h;refine⟨h1,?_⟩;rw[List.length_drop] at h2;omega
theorem bO.Ix{ρ:Env}{l:List AV}{a:Array Value}{i:Nat}{x:AV}(h:bO ρ l a.toList)(hx:l[i]? =some x):∃v,a[i]? =some v/\VR ρ x v:=by
 have:=h.get i hx;simpa using this
theorem Vs{cs r:List AV}{off n:Nat}{c:Array Value}(h:Vc cs off n=some r)(hc:bO ρ cs c.toList):bO ρ r (c.extract off (off+n)).toList:=by
 obtain⟨h1,h2⟩:=BO h;subst h1
 have:(c.extract off (off+n)).toList=(c.toList.drop off).take n:=by
  rw[Array.toList_extract,List.extract_eq_take_drop];congr 1;omega
 rw[this];exact(hc.drop off).take n
theorem uh{t:TypeId}{cs:List AV}{c:Array Value}{off:Nat}{v:AV}(h:y8 P t cs off=some v)(hc:bO ρ cs c.toList):∃v',(part t c off).run P w= .ok v' w/\VR ρ v v':=by
 unfold y8 at h;split at h
 ·rename_i n ha hs
  split at h
  ·rename_i l hl
   cases h;exact⟨.agg (c.extract off (off+n)),by simp[part,nD ha,bW hs],.agg _ _ (Vs hl hc)⟩
  ·cases h
 ·rename_i ha
  obtain⟨v',h1,h2⟩:=hc.Ix h;exact⟨v',by simp[part,nD ha,h1],h2⟩
 ·cases h
theorem J6{E:TypeId->AV->AV->Option Bool}{n:Nat}(hE:∀{t x y b x' y'} (w:World),E t x y=some b->VR ρ x x'->VR ρ y y'->(Op.equalIn n t x' y').run P w= .ok b w){cs ds:List AV}{xs ys:Array Value}(hx:bO ρ cs xs.toList)(hy:bO ρ ds ys.toList)(w:World):
 ∀{fs:List Field} {b:Bool},Vd P E fs cs ds=some b->(Op.eqFields n xs ys fs).run P w= .ok b w
 |[],b,h=>by cases h;rfl
 |f::fs,b,h=>by
  unfold Vd at h;split at h
  ·rename_i hn
   split at h
   ·rename_i a c ha hc
    obtain⟨a',p1,v1⟩:=uh (w:=w) ha hx;obtain⟨c',p2,v2⟩:=uh (w:=w) hc hy;have hn':f.name≠ "_":=by simpa using hn
    unfold Op.eqFields;rw[if_pos hn'];cases he:E f.type a c with
    |none=>rw[he] at h;cases h
    |some r=>
     have h3:=hE w he v1 v2;simp only[Sem.run_bind,p1,p2,Result.andThen_ok,h3];rw[he] at h;cases r with
     |true=>exact J6 hE hx hy w h
     |false=>cases h;rfl
   ·cases h
  ·cases h
theorem RN:∀(d:Nat) {t:TypeId} {x y:AV} {x' y':Value} {b:Bool} (w:World) (n:Nat),eqD P d t x y=some b->VR ρ x x'->VR ρ y y'->(Op.equalIn (n+d) t x' y').run P w= .ok b w
 |0,t,x,y,x',y',b,w,n,h,hx,hy=>by cases h
 |d+1,t,x,y,x',y',b,w,n,h,hx,hy=>by
  unfold eqD at h;split at h
  ·rename_i fs cs ds hu
   split at h
   ·cases h
   ·rename_i hs
    have hf:P.fieldsOf t=fs:=by simp[Program.fieldsOf,hu]
    cases hx with
    |agg _ xs hx1=>cases hy with
     |agg _ ys fI=>
      rw[show n+(d+1)=(n+d)+1 by omega,run_equalIn_struct w (n+d) t xs ys (by rw[hf];exact hu) (by simpa using hs),hf];exact J6 (fun w he h1 h2=>RN d w n he h1 h2) hx1 fI w h
  ·rename_i hu hng
   split at h
   ·rename_i hk
    exact(nE (n:=n+d) hu hk h hx hy w).1
   ·cases h
  ·cases h
theorem RO{t:TypeId}{d:TypeDesc}{x y:AV}{x' y':Value}{b:Bool}(h:eqS P t d x y=some b)(hd:P.underlying t=some d)(hx:VR ρ x x')(hy:VR ρ y y')(op:BinOp)(X Y:Operand)(w:World):
 ∃xs ys,x'= .agg xs/\y'= .agg ys/\(eqGuard op t X Y x' y').run P w= .ok () w/\(Op.equalIn 10000 t (.agg xs) (.agg ys)).run P w= .ok b w:=by
 unfold eqS at h;split at h
 ·split at h
  ·rename_i hg
   simp only[Bool.not_eq_true'] at hg;have:=fun x' y'=>RN (P:=P) (ρ:=ρ) 5 (x':=x') (y':=y') w 9995 h;cases hx with
   |agg _ xs hx1=>cases hy with
    |agg _ ys fI=>exact⟨xs,ys,rfl,rfl,run_eqGuard_agg w op t X Y xs ys hg,this _ _ (.agg _ _ hx1) (.agg _ _ fI)⟩
  ·cases h
 ·cases h
theorem YY{op:BinOp}{t:TypeId}{X Y:Operand}{x y:AV}{x' y':Value}{v:AV}(h:bop P t op (P.underlying t) (isConst X||isConst Y) x y=some v)(hx:VR ρ x x')(hy:VR ρ y y'):
 ∃v',(do eqGuard op t X Y x' y';binOp op t x' y':Sem Value).run P w= .ok v' w/\VR ρ v v':=by
 unfold bop at h;split at h
 ·rename_i k a j c
  cases hx;cases hy;split at h
  ·rename_i hk
   obtain⟨v',h1,h2⟩:=YV (P:=P) (ρ:=ρ) (w:=w) (t:=t) h hk;refine⟨v',?_,h2⟩;have:=mS (P:=P) (w:=w) (op:=op) (t:=t) (X:=X) (Y:=Y) (x':= .int k a) (y':= .int j c) (fun a b h=>by cases h.1) (fun h=>by cases h.1);simp[this,h1]
  ·cases h
 ·rename_i l m
  cases hx with
  |str _ hl=>cases hy with
   |str _ hm=>
    obtain⟨v',h1,h2⟩:=YW (P:=P) (ρ:=ρ) (w:=w) (t:=t) h hl hm;refine⟨v',?_,h2⟩;have:=mS (P:=P) (w:=w) (op:=op) (t:=t) (X:=X) (Y:=Y) (x':= .string ⟨(l.map UInt8.ofNat).toArray⟩) (y':= .string ⟨(m.map UInt8.ofNat).toArray⟩) (fun a b h=>by cases h.1) (fun h=>by cases h.1);simp[this,h1]
 ·rename_i n1 n2
  cases hd:P.underlying t with
  |none=>rw[hd] at h;cases op<;>simp at h
  |some d=>
   rw[hd] at h
   have hni:∀{b},bJ d (isConst X||isConst Y) x y=some b->(∀k a,x'≠.int k a)/\(∀a,x'≠.string a)/\(∀k a,x'≠.float k a)/\(∀k a b,x'≠.complex k a b):=by
    intro b hb;unfold bJ at hb;split at hb<;>first|(cases hb;done)|skip
    all_goals
     cases hx;simp
   cases op<;>simp only[reduceCtorEq] at h
   case eql=>
    split at h
    ·rename_i b hb
     cases h;obtain⟨h1,h2,h3,h4⟩:=hni hb;refine⟨.bool b,?_,.bool _⟩;simp only[Sem.run_bind,zk hb hx hy,Result.andThen_ok];have he:=RM (w:=w) hb hd hx hy;unfold binOp;split<;>first|(exact absurd rfl (h1 _ _))|(exact absurd rfl (h2 _))|(exact absurd rfl (h3 _ _))|(exact absurd rfl (h4 _ _ _))|(simp_all;done)|skip
    ·split at h
     ·rename_i b hb
      cases h;obtain⟨xs,ys,rfl,rfl,h1,h2⟩:=RO (P:=P) hb hd hx hy .eql X Y w;refine⟨.bool b,?_,.bool _⟩;simp only[Sem.run_bind,h1,Result.andThen_ok,run_eql_struct,h2]
     ·cases h
   case neq=>
    split at h
    ·rename_i b hb
     cases h;obtain⟨h1,h2,h3,h4⟩:=hni hb;refine⟨.bool !b,?_,.bool _⟩;simp only[Sem.run_bind,zk hb hx hy,Result.andThen_ok];have he:=RM (w:=w) hb hd hx hy;unfold binOp;split<;>first|(exact absurd rfl (h1 _ _))|(exact absurd rfl (h2 _))|(exact absurd rfl (h3 _ _))|(exact absurd rfl (h4 _ _ _))|(simp_all;done)|skip
    ·split at h
     ·rename_i b hb
      cases h;obtain⟨xs,ys,rfl,rfl,h1,h2⟩:=RO (P:=P) hb hd hx hy .neq X Y w;refine⟨.bool !b,?_,.bool _⟩;simp only[Sem.run_bind,h1,Result.andThen_ok,run_neq_struct,h2]
     ·cases h
theorem YZ{op:UnOp}{x:AV}{x':Value}{v:AV}(h:uop op x=some v)(hx:VR ρ x x'):∃v',(Op.unary op x').run P w= .ok v' w/\VR ρ v v':=by
 unfold uop at h;split at h
 ·cases hx;cases h;exact⟨_,by simp[Op.unary,Op.intArith],.int _ _⟩
 ·cases hx;cases h;exact⟨_,by simp[Op.unary,Op.intBits],.int _ _⟩
 ·cases hx;cases h;exact⟨_,by simp[Op.unary],.bool _⟩
 ·cases h
end
theorem RB.ik(r:RB)(off j:Nat):(r.at off).add j=r.at (off+j):=by
 unfold RB.at Addr.add;split
 ·rename_i h;subst h;rfl
 ·simp[Nat.add_assoc]
theorem qA{w:World}{B o:Nat}{c:Array Value}{t:TypeId}{fr:Nat×Nat}(h:w.heap[B]? =some (.cells c t fr)):w.cell? ⟨B,o,none⟩=c[o]? :=by
 simp[World.cell?,h]
theorem kR:∀{cs:List AV} {off:Nat} {vs r:List AV},wu cs off vs=some r->r.length=cs.length/\(∀i,r[i]? =if off<=i/\i<off+vs.length then vs[i-off]?else cs[i]?)/\(vs=[]\/off+vs.length<=cs.length)
 |cs,off,[],r,h=>by
  simp[wu] at h;subst h;exact⟨rfl,fun i=>by rw[if_neg (by simp only[List.length_nil];omega)],.inl rfl⟩
 |[],off,v::vs,r,h=>by cases off<;>simp[wu] at h
 |c::cs,0,v::vs,r,h=>by
  unfold wu at h;split at h
  ·rename_i r' hr
   cases h;obtain⟨h1,h2,h3⟩:=kR hr
   have h4:vs.length<=cs.length:=by
    rcases h3 with h3|h3
    ·simp[h3]
    ·omega
   refine⟨by simp[h1],fun i=> ?_,.inr (by simp;omega)⟩;cases i with
   |zero=>simp
   |succ i=>
    rw[List.getElem?_cons_succ,h2];by_cases hi:i<vs.length
    ·rw[if_pos (by omega),if_pos (by simp;omega)];simp
    ·rw[if_neg (by omega),if_neg (by simp;omega)];simp
  ·cases h
 |c::cs,off+1,v::vs,r,h=>by
  unfold wu at h;split at h
  ·rename_i r' hr
   cases h;obtain⟨h1,h2,h3⟩:=kR hr;have h4:=h3.resolve_left (by simp);refine⟨by simp[h1],fun i=> ?_,.inr (by simp at h4⊢;omega)⟩;cases i with
   |zero=>simp
   |succ i=>
    rw[List.getElem?_cons_succ,h2];by_cases hi:off<=i/\i<off+(v::vs).length
    ·rw[if_pos hi,if_pos (by omega)];congr 1;omega
    ·rw[if_neg hi,if_neg (by omega)];simp
  ·cases h
section
variable {P:Program} {ρ:Env} {T:Nat->Nat->Prop} {s s':St} {w w':World}
theorem fY{b:Nat}{x:bK}(hw:ki s)(h:s.heap.get b=some x):b<s.n:=by
 rcases Nat.lt_or_ge b s.n with h1|h1
 ·exact h1
 ·rw[hw b h1] at h;cases h
theorem eL{b off n:Nat}{cs:List AV}(h:gy s b off n=some (cs,s')):s'=s.note (.rd b off n)/\aF s s':=by
 unfold gy at h;split at h
 ·rename_i hb
  split at h
  ·simp only[Option.some.injEq,Prod.mk.injEq] at h
   obtain⟨_,rfl⟩:=h;exact⟨rfl,aF.note _ _ ⟨_,hb,trivial⟩⟩
  ·cases h
 ·cases h
theorem wN{b off n:Nat}{cs:List AV}{r:RB}(h:gy s b off n=some (cs,s'))(hp:Pre ρ T s s' w)(hr:ρ b=some r):
 ∃vs:List Value,vs.length=n/\bO ρ cs vs/\∀j v,vs[j]? =some v->w.cell? ((r.at off).add j)=some v:=by
 obtain⟨he,_⟩:=eL h;unfold gy at h;split at h
 ·rename_i t cs0 hb
  split at h
  ·rename_i l hl
   simp only[Option.some.injEq,Prod.mk.injEq] at h;obtain⟨rfl,rfl⟩:=h;obtain⟨h1,h2⟩:=BO hl;by_cases hn:n=0
   ·subst hn
    exact⟨[],rfl,by rw[h1];exact .nil,fun j v hv=>by simp at hv⟩
   ·have h2:off+n<=cs0.length:=h2.resolve_left hn
    have hT:∀i,off<=i->i<off+n->T b i:=fun i h3 h4=>hp.o8 (.rd b off n) (by rw[he];exact List.mem_cons_self ..) (fY hp.wf hb) b i ⟨rfl,h3,h4⟩;obtain⟨r0,c,fr,g1,g2,g3,g4,g5,g6⟩:=hp.good.sat b _ hb ⟨off,hT off (n_) (by omega)⟩;replace g4:=g4.1;have:r0=r:=i_ (g1.symm.trans hr);subst this;refine⟨(c.toList.drop (r0.base+off)).take n,by simp;omega,?_,fun j v hv=> ?_⟩
    ·rw[h1]
     refine bO.wJ (by simp;omega) (fun i a v ha hv=> ?_)
     have hi:i<n:=by
      have:=(g_ ha).1;simp at this;omega
     rw[List.getElem?_take_of_lt hi,List.getElem?_drop] at ha hv;obtain⟨u,hu,hR⟩:=g6 (off+i) a ha (hT _ (by omega) (by omega));rw[<-Array.getElem?_toList,<-Nat.add_assoc] at hu;rw[hu] at hv;cases hv;exact hR
    ·have hj:j<n:=by
      have:=(g_ hv).1;simp at this;omega
     rw[List.getElem?_take_of_lt hj,List.getElem?_drop,Array.getElem?_toList] at hv;rw[RB.ik];unfold RB.at
     rw[qA g2,<-hv,Nat.add_assoc]
  ·cases h
 ·cases h
theorem nG{a:Addr}{vs:List Value}(h:∀j v,vs[j]? =some v->w.cell? (a.add j)=some v):(loadCells a vs.length).run P w= .ok vs.toArray w:=run_loadCells_list (P:=P) (w:=w) a vs h
def fS(P:Program)(m:Sem Value)(ρ:Env)(T:Nat->Nat->Prop)(s:St)(w:World)(v:AV)(s':St):Prop:=
 ∃ρ' w' v',m.run P w= .ok v' w'/\Post ρ T s w ρ' s' w'/\VR ρ' v v'
theorem fS.pure{m:Sem Value}{v:AV}{v':Value}(hp:Pre ρ T s s w)(h:m.run P w= .ok v' w)(hv:VR ρ v v'):fS P m ρ T s w v s:=
 ⟨ρ,w,v',h,Post.same hp.good rfl rfl (Still.refl w),hv⟩
theorem mU{t:TypeId}{x v:AV}(h:mG P t x s=some (v,s')):aF s s':=by
 unfold mG at h;split at h
 ·split at h
  ·rename_i hr
   cases h;exact(eL hr).2
  ·cases h
 ·split at h
  ·rename_i hr
   cases h;exact(eL hr).2
  ·cases h
 ·cases h
theorem M4{t:TypeId}{x v:AV}{x':Value}(h:mG P t x s=some (v,s'))(hp:Pre ρ T s s' w)(hx:VR ρ x x'):fS P (Instr.loadAt t x') ρ T s w v s':=by
 unfold mG at h;split at h
 ·rename_i b off n ha hs
  split at h
  ·rename_i cs s1 hr
   simp only[Option.some.injEq,Prod.mk.injEq] at h;obtain⟨rfl,rfl⟩:=h;cases hx with
   |ptr b off r hb=>
    obtain⟨vs,h1,h2,h3⟩:=wN hr hp hb;obtain⟨e,_⟩:=eL hr;subst h1;refine⟨ρ,w,.agg vs.toArray,?_,Post.same hp.good (by rw[e];rfl) (by rw[e];rfl) (Still.refl w),.agg _ _ (by simpa using h2)⟩;simp[Instr.loadAt,Instr.sureAddr,loadVar,nD ha,bW hs,nG h3]
  ·cases h
 ·rename_i b off ha
  split at h
  ·rename_i v1 s1 hr
   simp only[Option.some.injEq,Prod.mk.injEq] at h;obtain⟨rfl,rfl⟩:=h;cases hx with
   |ptr b off r hb=>
    obtain⟨vs,h1,h2,h3⟩:=wN hr hp hb;obtain⟨e,_⟩:=eL hr
    match vs,h1 with
    |[u],_=>
     cases h2 with
     |cons _ _ _ _ hv _=>
      have hc:=h3 0 u rfl;rw[RB.ik,Nat.add_zero] at hc;refine⟨ρ,w,u,?_,Post.same hp.good (by rw[e];rfl) (by rw[e];rfl) (Still.refl w),hv⟩;simp[Instr.loadAt,Instr.sureAddr,loadVar,nD ha,hc]
  ·cases h
 ·cases h
theorem sJ{w:World}{B:Nat}{c:Array Value}{t:TypeId}{fr:Nat×Nat}(h:w.heap[B]? =some (.cells c t fr))(o:Nat)(v:Value):
 (w.setCell ⟨B,o,none⟩ v).heap[B]? =some (.cells (c.setIfInBounds o v) t fr)/\(∀B',B'≠B->(w.setCell ⟨B,o,none⟩ v).heap[B']? =w.heap[B']?)/\(w.setCell ⟨B,o,none⟩ v).heap.size=w.heap.size:=by
 refine⟨?_,fun B' hB=> ?_,?_⟩
 ·simp[World.setCell,Array.getElem?_modify,h]
 ·simp[World.setCell,Array.getElem?_modify,Ne.symm hB]
 ·simp[World.setCell]
theorem kS{B o:Nat}{t:TypeId}{fr:Nat×Nat}:∀(vs:List Value) (i:Nat) (c:Array Value) (w:World),w.heap[B]? =some (.cells c t fr)->(∀v∈vs,v.oneCell'=true)->o+i+vs.length<=c.size->
 (∀j,o+i<=j->j<c.size->(decide (fr.1<=j)&&decide (j<fr.2))=false)->∃c' w',(storeCells ⟨B,o,none⟩ vs i).run P w= .ok () w'/\w'.heap[B]? =some (.cells c' t fr)/\c'.size=c.size/\
   (∀j,c'[j]? =if o+i<=j/\j<o+i+vs.length then vs[j-(o+i)]?else c[j]?)/\(∀B',B'≠B->w'.heap[B']? =w.heap[B']?)/\w'.heap.size=w.heap.size/\w'.os=w.os/\w'.tape=w.tape/\w'.output=w.output
 |[],i,c,w,h,_,_,_=>⟨c,w,rfl,h,rfl,fun j=>by rw[if_neg (by simp only[List.length_nil];omega)],fun _ _=>rfl,rfl,rfl,rfl,rfl⟩
 |v::vs,i,c,w,h,ho,hs,hf=>by
  simp only[List.length_cons] at hs
  have ha:(⟨B,o,none⟩:Addr).add i=⟨B,o+i,none⟩:=by
   unfold Addr.add;split
   ·rename_i h0;subst h0;rfl
   ·rfl
  have hc:∃u,w.cell? ⟨B,o+i,none⟩=some u:=by rw[qA h];exact⟨_,Array.getElem?_eq_getElem (by omega)⟩
  have hz:w.frozen? ⟨B,o+i,none⟩=false:=by
   simp only[World.frozen?,h];have:=hf (o+i) (n_) (by omega);simpa using this
  obtain⟨u,hu⟩:=hc;obtain⟨m1,m2,m3⟩:=sJ h (o+i) v;obtain⟨c',w',g1,g2,g3,g4,g5,g6,g7,g8,g9⟩:=kS (B:=B) (o:=o) vs (i+1) (c.setIfInBounds (o+i) v) (w.setCell ⟨B,o+i,none⟩ v) m1 (fun x hx=>ho x (List.mem_cons_of_mem _ hx)) (by simp;omega) (fun j h1 h2=>hf j (by omega) (by simpa using h2));refine⟨c',w',?_,g2,by rw[g3];simp,fun j=> ?_,fun B' hB=>(g5 B' hB).trans (m2 B' hB),g6.trans m3,g7,g8,g9⟩
  ·unfold storeCells
   rw[Sem.run_bind,ha,run_store P w _ v .plain (ho v (List.mem_cons_self ..)),hu];simp only[hz,Bool.false_eq_true,if_false,Result.andThen_ok];exact g1
  ·rw[g4]
   by_cases hj:o+(i+1)<=j/\j<o+(i+1)+vs.length
   ·rw[if_pos hj,if_pos (by simp only[List.length_cons];omega),show j-(o+i)=(j-(o+(i+1)))+1 by omega,List.getElem?_cons_succ]
   ·rw[if_neg hj]
    by_cases qZ:j=o+i
    ·subst qZ
     rw[if_pos (by simp only[List.length_cons];omega),Nat.sub_self,List.getElem?_cons_zero,Array.getElem?_setIfInBounds,if_pos rfl,if_pos (by omega)]
    ·rw[if_neg (by simp only[List.length_cons];omega),Array.getElem?_setIfInBounds,if_neg (Ne.symm qZ)]
theorem Vt{b off:Nat}{vs:List AV}(h:qg s b off vs=some s'):aF s s':=by
 unfold qg at h;split at h
 ·rename_i hb
  split at h
  ·split at h
   ·rename_i fJ
    cases h;obtain⟨h1,h2,_⟩:=kR fJ;exact aF.write _ _ hb h1 (fun i hi=>by rw[h2,if_neg hi])
   ·cases h
  ·cases h
 ·cases h
theorem bO.ones{l:List AV}{vs:List Value}(h:bO ρ l vs)(ho:l.all Rk.one=true):∀v∈vs,v.oneCell'=true:=by
 intro v hv;obtain⟨i,hi⟩:=List.getElem?_of_mem hv;have hl:=h.length;have F5:i<l.length:=by have:=(g_ hi).1;omega
 obtain⟨u,hu,hR⟩:=h.get i (e_ F5);rw[hi] at hu;cases hu;exact YJ hR (List.all_eq_true.1 ho _ (List.getElem_mem F5))
theorem jbr{b off:Nat}{vs:List AV}{vs':List Value}{r:RB}(h:qg s b off vs=some s')(hp:Pre ρ T s s' w)(hr:ρ b=some r)(hv:bO ρ vs vs'):
 ∃w',(storeCells (r.at off) vs').run P w= .ok () w'/\Post ρ T s w ρ s' w':=by
 unfold qg at h;split at h
 ·rename_i t cs hb
  split at h
  ·rename_i je
   split at h
   ·rename_i cs' fJ
    cases h;simp only[Bool.and_eq_true,Bool.not_eq_true',List.isEmpty_eq_false_iff] at je;obtain⟨h1,h2,h3⟩:=kR fJ;have h3:=h3.resolve_left je.2;have hlen:=hv.length;have sT:0<vs.length:=List.length_pos_iff.2 je.2;have hT:∀i,off<=i->i<off+vs.length->T b i:=fun i h4 h5=>hp.o8 (.wr b off vs.length) (List.mem_cons_self ..) (fY hp.wf hb) b i ⟨rfl,h4,h5⟩;have hTb:∃i,T b i:=⟨off,hT off (n_) (by omega)⟩
    obtain⟨r0,c,fr,g1,g2,g3,g4,g5,g6⟩:=hp.good.sat b _ hb hTb;replace g4:=g4.1;have:r0=r:=i_ (g1.symm.trans hr);subst this;obtain⟨c',w',k1,k2,k3,k4,k5,k6,k7,k8,k9⟩:=kS (P:=P) (o:=r0.base+off) vs' 0 c w g2 (hv.ones je.1) (by omega) (fun j h4 h5=>g5 j (by omega) h5);refine⟨w',k1,Post.write (n:=vs.length) hp.good hb hTb hr g2 ⟨k7,k8,k9,k6,k2,k5⟩ k3 (fun o ho=> ?_) sT h1 (fun i a ha hTi=> ?_)⟩
    ·rw[k4,if_neg (by omega)]
    ·rw[h2] at ha
     rw[k4];by_cases hi:off<=i/\i<off+vs.length
     ·rw[if_pos hi] at ha
      rw[if_pos (by omega),show r0.base+i-(r0.base+off+0)=i-off by omega];exact hv.get _ ha
     ·rw[if_neg hi] at ha
      rw[if_neg (by omega)];exact g6 i a ha hTi
   ·cases h
  ·cases h
 ·cases h
theorem BP{t:TypeId}{x y:AV}(h:ql P t x y s=some s'):aF s s':=by
 unfold ql at h;split at h
 ·split at h
  ·split at h
   ·cases h;exact aF.refl _
   ·exact Vt h
  ·cases h
 ·cases h
theorem Iy{t:TypeId}{x y:AV}{x' y':Value}(h:ql P t x y s=some s')(hp:Pre ρ T s s' w)(hx:VR ρ x x')(hy:VR ρ y y'):
 ∃w',(Instr.storeAt t x' y').run P w= .ok () w'/\Post ρ T s w ρ s' w':=by
 unfold ql at h;split at h
 ·rename_i b off cs n hc hs
  split at h
  ·rename_i hl
   cases hx with
   |ptr b off r hb=>
    have hv:=mN hy hc
    have hsz:y'.cells.size=n:=by
     have:=hv.length;rw[Array.length_toList] at this;omega
    split at h
    ·rename_i Eh
     cases h;refine⟨w,?_,Post.same hp.good rfl rfl (Still.refl w)⟩;have he:y'.cells.toList=[]:=List.length_eq_zero_iff.1 (by rw[Array.length_toList];omega);simp[Instr.storeAt,Instr.sureAddr,storeVar,bW hs,hsz,he,storeCells]
    ·obtain⟨w',h1,h2⟩:=jbr (P:=P) h hp hb hv
     refine⟨w',?_,h2⟩;simp[Instr.storeAt,Instr.sureAddr,storeVar,bW hs,hsz,h1]
  ·cases h
 ·cases h
end
end Go.Proofs.YtpohlhkgbmdieaaGreatDoor.Rk
