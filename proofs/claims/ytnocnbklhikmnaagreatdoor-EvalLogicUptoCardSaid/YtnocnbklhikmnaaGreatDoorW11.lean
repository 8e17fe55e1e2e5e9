/- Part 11 of the proof. -/
import Derived.Test.YtnocnbklhikmnaaGreatDoorW8
import Derived.Test.YtnocnbklhikmnaaGreatDoorW9
import Derived.Test.YtnocnbklhikmnaaGreatDoorW10
import Derived.Lib.UnsafeStr
set_option linter.unusedVariables false
set_option maxRecDepth 1000000
set_option maxHeartbeats 16000000
namespace Go.Proofs.YtnocnbklhikmnaaGreatDoor.Rk
open Go
section
variable {P:Program} {ρ:Env} {T:Nat->Nat->Prop} {s s':St} {w w':World}
theorem opBuild_ok{t:TypeId}{ps:List (Nat×AV)}{ps':Array (Nat×Value)}{v:AV}(h:opBuild P t ps=some v)(hx:PR ρ ps ps'.toList):∃v',(Instr.build t ps').run P w= .ok v' w/\VR ρ v v':=by
 unfold opBuild at h
 have key:∀z,zeroC P t=some z->∃it zv,P.info? t=some it/\it.zero=some zv/\VRL ρ z zv.cells.toList:=by
  intro z hz;cases hit:P.info? t with
  |none=>unfold zeroC zeroA at hz;rw[hit] at hz;simp at hz
  |some it=>
   obtain⟨zv,h1,h2⟩:=zeroC_info (ρ:=ρ) hz hit;exact⟨it,zv,rfl,h1,h2⟩
 split at h
 ·rename_i z fs hz hu
  obtain⟨it,zv,h1,h2,h3⟩:=key z hz;split at h
  ·rename_i places hpl
   split at h
   ·rename_i cs hf
    cases h;obtain⟨r',h4,h5⟩:=fill_ok hf hx h3;refine⟨.agg r',run_build w t ps' r' ?_,.agg _ _ h5⟩;unfold Program.built;simp only[h1,hu,h2,hpl];simpa using h4
   ·cases h
  ·cases h
 ·rename_i z len e hz hu
  obtain⟨it,zv,h1,h2,h3⟩:=key z hz;split at h
  ·rename_i i hi
   split at h
   ·rename_i cs hf
    cases h;obtain⟨r',h4,h5⟩:=fill_ok hf hx h3;refine⟨.agg r',run_build w t ps' r' ?_,.agg _ _ h5⟩;unfold Program.built;simp only[h1,hu,h2,hi];exact h4
   ·cases h
  ·cases h
 ·cases h
theorem str_size(l:List Nat):(⟨(l.map UInt8.ofNat).toArray⟩:ByteArray).size=l.length:=by simp[ByteArray.size]
inductive VRO(ρ:Env):Option AV->Option Value->Prop
 |none:VRO ρ none none
 |some (a:AV) (v:Value) (h:VR ρ a v):VRO ρ (some a) (some v)
theorem bound_ok{x:AV}{x':Value}{k n y:Nat}{c:BoundsCode}(h:bnd (some x) n=some k)(hx:VR ρ x x')(hle:k<=y):(Instr.sliceBound x' y c).run P w= .ok k w:=by
 unfold bnd at h;split at h
 ·rename_i he;cases he
 ·rename_i kk n he
  cases he;cases h;cases hx;simp[Instr.sliceBound,asIntOf];omega
 ·cases h
theorem bounds_ok{lo hi:Option AV}{lo' hi':Option Value}{b:Bool}{len cap k h:Nat}(hk:bnd lo 0=some k)(hh:bnd hi len=some h)(hl:VRO ρ lo lo')(hr:VRO ρ hi hi')(h1:k<=h)(h2:h<=cap):(Instr.sliceBounds b len cap lo' hi' none).run P w= .ok (k,h,cap) w:=by
 unfold Instr.sliceBounds;simp only[Sem.run_bind,Sem.run_pure,Result.andThen_ok];cases hr with
 |none=>
  cases hh;simp only[Sem.run_bind,Sem.run_pure,Result.andThen_ok];cases hl with
  |none=>cases hk;simp
  |some a v ha=>simp[bound_ok (P:=P) (w:=w) hk ha h1]
 |some a v ha=>
  simp only[Sem.run_bind,bound_ok (P:=P) (w:=w) hh ha h2,Result.andThen_ok];cases hl with
  |none=>cases hk;simp
  |some a v ha=>simp[bound_ok (P:=P) (w:=w) hk ha h1]
theorem bnds_ok{lo hi:Option AV}{lo' hi':Option Value}{b:Bool}{len c cap k h:Nat}(hb:bnds lo hi len c=some (k,h))(hc:c<=cap)(hl:VRO ρ lo lo')(hr:VRO ρ hi hi'):(Instr.sliceBounds b len cap lo' hi' none).run P w= .ok (k,h,cap) w/\k<=h/\h<=c:=by
 unfold bnds at hb;split at hb
 ·rename_i h' he
  split at hb
  ·rename_i k' hk
   split at hb
   ·rename_i hh
    cases hb;exact⟨bounds_ok hk he hl hr hh.1 (by omega),hh⟩
   ·cases hb
  ·cases hb
 ·cases hb
theorem opSlice_ok{t:TypeId}{x:AV}{x':Value}{lo hi mx:Option AV}{lo' hi' mx':Option Value}{v:AV}(h:opSlice P t x lo hi mx=some v)(hx:VR ρ x x')(hl:VRO ρ lo lo')(hr:VRO ρ hi hi')(hm:VRO ρ mx mx'):
 ∃v',(Instr.sliceAt t x' lo' hi' mx').run P w= .ok v' w/\VR ρ v v':=by
 unfold opSlice at h;split at h
 ·cases h
 ·cases hm
  split at h
  ·rename_i l hu
   split at h
   ·rename_i k hh hb
    cases h;cases hx with
    |str _ hlt=>
    obtain⟨hb1,hb2,hb3⟩:=bnds_ok (P:=P) (w:=w) (b:=false) hb (n_) hl hr;refine⟨.string ((⟨(l.map UInt8.ofNat).toArray⟩:ByteArray).extract k hh),?_,?_⟩
    ·simp only[Instr.sliceAt,Instr.slice,Sem.run_bind,run_underlying hu,Result.andThen_ok,Option.isSome_none,Bool.false_eq_true,if_false,Sem.run_pure,str_size,hb1]
    ·have e:(⟨(l.map UInt8.ofNat).toArray⟩:ByteArray).extract k hh=⟨(((l.take hh).drop k).map UInt8.ofNat).toArray⟩:=by
      apply ByteArray.ext;rw[ByteArray.data_extract];apply Array.ext';simp only[Array.toList_extract,List.extract_eq_take_drop,List.map_drop,List.map_take];rw[List.drop_take]
     rw[e];exact .str _ (fun z hz=>hlt z (List.mem_of_mem_take (List.mem_of_mem_drop hz)))
   ·cases h
  ·rename_i e hu
   split at h
   ·rename_i kh n hb hs
    cases h;cases hx;obtain⟨k,hh⟩:=kh;obtain⟨hb1,hb2,hb3⟩:=bnds_ok (P:=P) (w:=w) (b:=true) hb (n_) hl hr;have hk0:k=0:=by omega
    have hh0:hh=0:=by omega
    subst hk0 hh0;refine⟨.slice none 0 0,?_,.nils⟩;simp[Instr.sliceAt,Instr.slice,run_underlying hu,hb1,run_szOf hs]
   ·cases h
  ·rename_i b off len mc es e hu
   split at h
   ·rename_i k hh n hb hs
    split at h
    ·rename_i hn
     cases h;subst hn;cases hx with
     |slice b off len mc es r ad cap hbr k1 k2 k3=>
     obtain⟨hb1,hb2,hb3⟩:=bnds_ok (P:=P) (w:=w) (b:=true) hb k2 hl hr;refine⟨.slice (some (if cap=k then ad else ad.add (k*n))) (hh-k) (cap-k),?_,?_⟩
     ·by_cases hck:cap=k
      ·subst hck
       simp[Instr.sliceAt,Instr.slice,run_underlying hu,hb1,run_szOf hs]
      ·simp[Instr.sliceAt,Instr.slice,run_underlying hu,hb1,run_szOf hs,hck]
     ·by_cases hck:cap=k
      ·rw[if_pos hck]
       exact .slice b _ _ _ n r ad _ hbr (by omega) (by omega) (.inl (by omega))
      ·rw[if_neg hck]
       obtain⟨had,hfit⟩:=k3.resolve_left (by omega);refine .slice b _ _ _ n r _ _ hbr (by omega) (by omega) (.inr ⟨by rw[had,RB.at_add],?_⟩);have:k*n+(cap-k)*n=cap*n:=by rw[<-Nat.add_mul];congr 1;omega
       omega
    ·cases h
   ·cases h
  ·cases h
theorem opSliceArr_mono{t:TypeId}{b off:Nat}{lo hi mx:Option AV}{v:AV}(h:opSliceArr P t b off lo hi mx s=some (v,s')):Mono s s':=by
 unfold opSliceArr at h;split at h
 ·cases h
 ·split at h
  ·split at h
   ·rename_i hbg
    split at h
    ·cases h;exact Mono.note _ _ ⟨_,hbg,trivial⟩
    ·cases h
   ·cases h
  ·cases h
theorem opSliceArr_ok{t:TypeId}{b off:Nat}{x':Value}{lo hi mx:Option AV}{lo' hi' mx':Option Value}{v:AV}(h:opSliceArr P t b off lo hi mx s=some (v,s'))(hp:Pre ρ T s s' w)(hx:VR ρ (.ptr b off) x')(hl:VRO ρ lo lo')(hr:VRO ρ hi hi')(hm:VRO ρ mx mx'):
 OK1 P (Instr.sliceAt t x' lo' hi' mx') ρ T s w v s':=by
 unfold opSliceArr at h;split at h
 ·cases h
 ·cases hm
  split at h
  ·rename_i len e hu
   split at h
   ·rename_i k hh n t0 cs hb hs hbg
    split at h
    ·rename_i hfit
     cases h;cases hx with
     |ptr b off r hbr=>
     obtain⟨hb1,hb2,hb3⟩:=bnds_ok (P:=P) (w:=w) (b:=false) hb (n_) hl hr;have hT:T b off:=hp.cov (.rd b off 1) (List.mem_cons_self ..) (lt_n hp.wf hbg) b off ⟨rfl,n_,Nat.lt_succ_self _⟩;obtain⟨r0,c,fr,q1,q2,q3,q4,q5,q6⟩:=hp.good.sat b _ hbg ⟨off,hT⟩;replace q4:=q4.1;have:r0=r:=Option.some.inj (q1.symm.trans hbr);subst this;refine⟨ρ,w,.slice (some (if len=k then r0.at off else(r0.at off).add (k*n))) (hh-k) (len-k),?_,Post.same hp.good rfl rfl (Still.refl w),?_⟩
     ·by_cases hck:len=k
      ·subst hck
       simp[Instr.sliceAt,Instr.sureAddr,run_underlying hu,hb1,run_szOf hs]
      ·simp[Instr.sliceAt,Instr.sureAddr,run_underlying hu,hb1,run_szOf hs,hck]
     ·by_cases hck:len=k
      ·rw[if_pos hck]
       exact .slice b _ _ _ n r0 _ _ hbr (by omega) (by omega) (.inl (by omega))
      ·rw[if_neg hck]
       refine .slice b _ _ _ n r0 _ _ hbr (by omega) (by omega) (.inr ⟨by rw[RB.at_add],?_⟩);have:k*n+(len-k)*n=len*n:=by rw[<-Nat.add_mul];congr 1;omega
       omega
    ·cases h
   ·cases h
  ·cases h
theorem opFieldAddr_ok{t:TypeId}{x v:AV}{x':Value}{f:Nat}(h:opFieldAddr P t x f=some v)(hx:VR ρ x x'):∃v',(Instr.fieldAt t x' f).run P w= .ok v' w/\VR ρ v v':=by
 unfold opFieldAddr at h;split at h
 ·rename_i fs b off hu
  split at h
  ·rename_i fd hfd
   split at h
   ·rename_i n hs
    cases h;cases hx with
    |ptr b off r hbr=>
    refine⟨_,?_,.ptr b (off+fd.offset) r hbr⟩;simp[Instr.fieldAt,run_underlying hu,hfd,Instr.sureAddr,fieldPlace,run_szOf hs,RB.at_add]
   ·cases h
  ·cases h
 ·cases h
theorem opField_ok{t:TypeId}{x v:AV}{x':Value}{f:Nat}(h:opField P t x f=some v)(hx:VR ρ x x'):∃v',(Instr.field t x' f).run P w= .ok v' w/\VR ρ v v':=by
 unfold opField at h;split at h
 ·rename_i fs cs hu
  split at h
  ·rename_i fd hfd
   cases hx with
   |agg _ cs' hc=>
   obtain⟨v',h1,h2⟩:=part_ok (P:=P) (w:=w) h hc;exact⟨v',by simp[Instr.field,run_underlying hu,hfd,asAgg,h1],h2⟩
  ·cases h
 ·cases h
theorem opIndexAddr_ok{t:TypeId}{x i v:AV}{x' i':Value}(h:opIndexAddr P t x i=some v)(hx:VR ρ x x')(hi:VR ρ i i'):∃v',(Instr.indexAt t x' i').run P w= .ok v' w/\VR ρ v v':=by
 unfold opIndexAddr at h;split at h
 ·rename_i len e b off k n hu
  split at h
  ·rename_i m hs
   split at h
   ·rename_i hlt
    cases h;cases hi;cases hx with
    |ptr b off r hbr=>
    refine⟨_,?_,.ptr b (off+n*m) r hbr⟩;have hc:(0:Int)<=Int.ofNat n/\Int.ofNat n<(len:Int):=⟨Int.natCast_nonneg n,by show(n:Int)<len;omega⟩
    simp only[Instr.indexAt,asIntOf,Sem.run_bind,Sem.run_pure,Result.andThen_ok,run_underlying hu,Instr.sureAddr,Sem.run_ite,if_pos hc,run_szOf hs,RB.at_add];rfl
   ·cases h
  ·cases h
 ·rename_i e b off len mc es k n hu
  split at h
  ·rename_i m hs
   split at h
   ·rename_i hlt
    cases h;cases hi;cases hx with
    |slice b off len mc es r ad cap hbr k1 k2 k3=>
    obtain⟨had,hfit⟩:=k3.resolve_left (by omega);refine⟨_,?_,.ptr b (off+n*m) r hbr⟩;have hc:(0:Int)<=Int.ofNat n/\Int.ofNat n<(len:Int):=⟨Int.natCast_nonneg n,by show(n:Int)<len;omega⟩
    simp only[Instr.indexAt,asIntOf,Sem.run_bind,Sem.run_pure,Result.andThen_ok,run_underlying hu,Sem.run_ite,if_pos hc,run_szOf hs,had,RB.at_add];rfl
   ·cases h
  ·cases h
 ·cases h
theorem ba_get(ba:ByteArray)(n:Nat):ba[n]? =ba.data[n]? :=by
 by_cases h:n<ba.size
 ·rw[getElem?_pos ba n h,Array.getElem?_eq_getElem (show n<ba.data.size from h)];rfl
 ·rw[getElem?_neg ba n h,Array.getElem?_eq_none (Nat.not_lt.1 h)]
theorem opIndex_ok{t:TypeId}{x i v:AV}{x' i':Value}(h:opIndex P t x i=some v)(hx:VR ρ x x')(hi:VR ρ i i'):∃v',(Instr.index t x' i').run P w= .ok v' w/\VR ρ v v':=by
 unfold opIndex at h;split at h
 ·rename_i l k n hu
  split at h
  ·rename_i m hm
   cases h;cases hi;cases hx with
   |str _ hlt=>
   refine⟨_,?_,.int _ _⟩;have hc:(0:Int)<=Int.ofNat n:=Int.natCast_nonneg n
   have hg:(⟨(l.map UInt8.ofNat).toArray⟩:ByteArray)[n]? =some (UInt8.ofNat m):=by
    rw[ba_get];simp[hm]
   have hmm:=hlt m (List.mem_of_getElem? hm);have e:(UInt8.ofNat m).toNat=m:=by simp;omega
   simp only[Instr.index,asIntOf,Sem.run_bind,Sem.run_pure,Result.andThen_ok,run_underlying hu,if_pos hc]
   show(match(⟨(l.map UInt8.ofNat).toArray⟩:ByteArray)[n]?with
    |some b=>(Pure.pure (.int .u8 b.toNat):Sem Value)
    |none=>boundsPanic k n _ .index).run P w=_
   rw[hg];simp only[Sem.run_pure,e];rfl
  ·cases h
 ·rename_i len e cs k n hu
  split at h
  ·rename_i m hs
   split at h
   ·rename_i hlt
    cases hi;cases hx with
    |agg _ cs' hc=>
    obtain⟨v',h1,h2⟩:=part_ok (P:=P) (w:=w) h hc;refine⟨v',?_,h2⟩;have hc:(0:Int)<=Int.ofNat n/\Int.ofNat n<(len:Int):=⟨Int.natCast_nonneg n,by show(n:Int)<len;omega⟩
    simp only[Instr.index,asIntOf,Sem.run_bind,Sem.run_pure,Result.andThen_ok,run_underlying hu,Sem.run_ite,if_pos hc,run_szOf hs];exact h1
   ·cases h
  ·cases h
 ·cases h
end
inductive DefR(ρ:Env):DE->Deferred->Prop
 |fn (f:FuncId) (args:List AV) (cap asz:Array Value) (h:VRL ρ args (asz++cap).toList):DefR ρ (.fn f args) {target:= .fn (.func f) cap,args:=asz}
 |mark (b:Nat) (r:RB) (h:ρ b=some r):DefR ρ (.mark b) {target:= .collected r.blk,args:=#[]}
inductive DefsR(ρ:Env):List DE->List Deferred->Prop
 |nil:DefsR ρ [] []
 |cons (e:DE) (d:Deferred) (l:List DE) (k:List Deferred) (h:DefR ρ e d) (t:DefsR ρ l k):DefsR ρ (e::l) (d::k)
theorem DefsR.mono{ρ ρ':Env}(hr:ρ.le ρ'):∀{l:List DE} {k:List Deferred},DefsR ρ l k->DefsR ρ' l k
 |_,_,.nil=> .nil
 |_,_,.cons _ _ _ _ h t=> .cons _ _ _ _ (by
   cases h with
   |fn f args cap asz h=>exact .fn f args cap asz (VRL.mono hr h)
   |mark b r h=>exact .mark b r (hr _ _ h)) (DefsR.mono hr t)
structure ActR(ρ:Env)(aa:AAct)(a:Act):Prop where
 size:a.tmps.size=aa.sz
 get:∀t,VR ρ (aa.get t) (a.tmps.getD t undef)
 defs:DefsR ρ aa.defs a.defers
section
variable {P:Program} {ρ:Env} {T:Nat->Nat->Prop} {s s':St} {w w':World} {aa:AAct} {a:Act}
theorem ActR.mono{ρ':Env}(h:ActR ρ aa a)(hr:ρ.le ρ'):ActR ρ' aa a:=⟨h.size,fun t=>(h.get t).mono hr,h.defs.mono hr⟩
theorem ActR.eval(h:ActR ρ aa a)(x:Operand):VR ρ (aeval aa x) (a.eval x):=by
 cases x with
 |tmp t=>exact h.get t
 |const v=>exact ofV_ok 3 v
 |global g=>exact .top _
 |func f=>exact .func f [] [] #[] #[] .nil .nil
theorem undef_ok:VR ρ undefA undef:= .tuple [] #[] .nil
theorem ActR.putT{v:AV}{v':Value}(h:ActR ρ aa a)(d:Tmp)(hv:VR ρ v v'):ActR ρ (aa.putT d v) {a with tmps:=a.tmps.setIfInBounds d v'}:=by
 unfold AAct.putT;split
 ·rename_i hd
  refine⟨by simp[h.size],fun t=> ?_,h.defs⟩;unfold AAct.get;rw[Tr.get_set];by_cases ht:t=d
  ·subst ht
   rw[if_pos rfl];have hlt:t<a.tmps.size:=by rw[h.size];exact hd
   simpa[Array.getD_eq_getD_getElem?,Array.getElem?_setIfInBounds,hlt] using hv
  ·rw[if_neg ht]
   have:=h.get t;unfold AAct.get at this;simpa[Array.getD_eq_getD_getElem?,Array.getElem?_setIfInBounds,Ne.symm ht] using this
 ·rename_i hd
  have:a.tmps.setIfInBounds d v'=a.tmps:=by
   apply Array.ext_getElem?;intro i;rw[Array.getElem?_setIfInBounds];split
   ·rename_i hi
    subst hi;rw[if_neg (by rw[h.size];exact hd),Array.getElem?_eq_none (Nat.not_lt.1 (by rw[h.size];exact hd))]
   ·rfl
  rw[this];exact h
theorem ActR.put{v:AV}{v':Value}(h:ActR ρ aa a)(d:Option Tmp)(hv:VR ρ v v'):ActR ρ (aa.put d v) (a.put d v'):=by
 cases d with
 |none=>exact h
 |some d=>exact h.putT d hv
theorem ActR.args(h:ActR ρ aa a)(xs:Array Operand):VRL ρ (xs.toList.map (aeval aa)) (xs.map a.eval).toList:=by
 rw[Array.toList_map];exact VRL.map _ _ _ (fun x _=>h.eval x)
theorem opRange_mono{t:TypeId}{x v:AV}(h:opRange P t x s=some (v,s')):Mono s s':=by
 unfold opRange at h;split at h
 ·cases h;exact Mono.new _ _
 ·cases h;exact Mono.new _ _
 ·split at h
  ·rename_i es clock hm
   cases h;exact(Mono.note _ (.rd _ 0 1) ⟨.map es clock,hm,trivial⟩).trans (Mono.new _ _)
  ·cases h
 ·cases h
theorem opRange_ok{t:TypeId}{x v:AV}{x':Value}(h:opRange P t x s=some (v,s'))(hp:Pre ρ T s s' w)(hx:VR ρ x x'):OK1 P (Instr.range t x') ρ T s w v s':=by
 unfold opRange at h;split at h
 ·rename_i l hu
  cases h;cases hx with
  |str _ hl=>
  have hf:ρ s.n=none:=hp.fresh s.n (n_) (Nat.lt_succ_self _);refine⟨_,_,.pointer (some ⟨w.heap.size,0,none⟩),by simp[Instr.range,run_underlying hu],Post.made (o:= .stringIter ⟨(l.map UInt8.ofNat).toArray⟩ 0) (r:=⟨w.heap.size,0,0⟩) hp.good hp.wf hf hp.tn (Add.push w _) rfl ⟨_,Env.add_self _ _,rfl,(Add.push w _).here,hl⟩,?_⟩;exact .ptr s.n 0 _ (Env.add_self _ _)
 ·rename_i k e hu
  cases h;cases hx;have hf:ρ s.n=none:=hp.fresh s.n (n_) (Nat.lt_succ_self _);refine⟨_,_,.pointer (some ⟨w.heap.size,0,none⟩),by simp[Instr.range,run_underlying hu],Post.made (o:= .mapIter none 0 #[] 0) (r:=⟨w.heap.size,0,0⟩) hp.good hp.wf hf hp.tn (Add.push w _) rfl ⟨_,none,Env.add_self _ _,rfl,(Add.push w _).here,rfl⟩,?_⟩;exact .ptr s.n 0 _ (Env.add_self _ _)
 ·rename_i k e m hu
  split at h
  ·rename_i es clock hm
   cases h;cases hx with
   |map _ r hbr=>
   have hmn:=lt_n hp.wf hm;have hT:T m 0:=hp.cov (.rd m 0 1) (List.mem_cons_self ..) hmn m 0 ⟨rfl,n_,Nat.one_pos⟩;obtain⟨r0,l,q1,q2,q3⟩:=hp.good.sat m _ hm ⟨0,hT⟩;have:r0=r:=Option.some.inj (q1.symm.trans hbr);subst this;have hf:ρ s.n=none:=hp.fresh s.n (n_) (Nat.lt_succ_self _);have hpost:Post ρ T s w ρ (s.note (.rd m 0 1)) w:=Post.same hp.good rfl rfl (Still.refl w);have hmn1:Mono s (s.note (.rd m 0 1)):=Mono.note _ _ ⟨_,hm,trivial⟩;have hpre:=hp.next hmn1 (Mono.new _ (.miter (some m) clock [] clock)) hpost
   refine⟨_,_,.pointer (some ⟨w.heap.size,0,none⟩),by simp[Instr.range,run_underlying hu,MapKept.run_getObj_map q2],hpost.trans hmn1 (Mono.new _ _) (Post.made (o:= .mapIter (some r0.blk) clock #[] clock) (r:=⟨w.heap.size,0,0⟩) hpre.good hpre.wf hf hpre.tn (Add.push w _) rfl ⟨_,some r0.blk,Env.add_self _ _,rfl,(Add.push w _).here,r0,Env.add_le hf _ _ hbr,rfl⟩),?_⟩;exact .ptr s.n 0 _ (Env.add_self _ _)
  ·cases h
 ·cases h
theorem opNext_mono{x v:AV}(h:opNext x s=some (v,s')):Mono s s':=by
 unfold opNext at h;split at h
 ·split at h
  ·rename_i hb
   cases h;exact Mono.note _ _ ⟨_,hb,trivial⟩
  ·rename_i m0 _ _ _ hb
   split at h
   ·rename_i hm
    have hnm:∀b0 a1 a2 a3 a4,s.heap.get b0=some (.miter a1 a2 a3 a4)->m0≠b0:=fun b0 _ _ _ _ hb e=>by subst e;rw[hm] at hb;cases hb
    split at h
    ·split at h
     ·cases h;exact(Mono.note _ (.all _) ⟨.miter _ _ _ _,hb,trivial⟩).trans (Mono.note _ (.rd _ 0 1) ⟨.map _ _,hm,trivial⟩)
     ·split at h
      ·cases h;exact(Mono.put_note _ _ _ ⟨_,hb,trivial⟩).trans (Mono.note _ (.rd _ 0 1) ⟨.map _ _,by
        show(s.put _ _).heap.get m0=_
        rw[get_put,if_neg (hnm _ _ _ _ _ hb)];exact hm,trivial⟩)
      ·cases h
     ·cases h
    ·cases h
   ·cases h
  ·cases h
 ·cases h
theorem opNext_ok{x v:AV}{x':Value}{ty:TypeId}(h:opNext x s=some (v,s'))(hp:Pre ρ T s s' w)(hx:VR ρ x x'):OK1 P (Instr.next x' false ty) ρ T s w v s':=by
 unfold opNext at h;split at h
 ·rename_i b
  cases hx with
  |ptr _ _ r hbr=>
  split at h
  ·rename_i hb
   cases h;have hT:∀i,T b i:=fun i=>hp.cov (.all b) (List.mem_cons_self ..) (lt_n hp.wf hb) b i rfl;obtain⟨r0,m',q1,q2,q3,q4⟩:=hp.good.sat b _ hb ⟨0,hT 0⟩;have:r0=r:=Option.some.inj (q1.symm.trans hbr);subst this;have q4:m'=none:=q4;subst q4;refine⟨ρ,w,_,?_,Post.same hp.good rfl rfl (Still.refl w),.tuple _ _ (.cons _ _ _ _ (.bool false) .nil)⟩;simp[Instr.next,RB.at,q2,getObj,Sem.run,q3]
  ·rename_i m since seen last hb
   split at h
   ·rename_i es clock hm
    split at h
    ·rename_i hcond
     have hmn:=lt_n hp.wf hm;have hbn:=lt_n hp.wf hb
     have hlog:LE.all b∈s'.log/\LE.rd m 0 1∈s'.log:=by
      split at h
      ·cases h;exact⟨List.mem_cons_of_mem _ (List.mem_cons_self ..),List.mem_cons_self ..⟩
      ·split at h
       ·cases h;exact⟨List.mem_cons_of_mem _ (List.mem_cons_self ..),List.mem_cons_self ..⟩
       ·cases h
      ·cases h
     have hT:∀i,T b i:=fun i=>hp.cov (.all b) hlog.1 hbn b i rfl;have hTm:T m 0:=hp.cov (.rd m 0 1) hlog.2 hmn m 0 ⟨rfl,n_,Nat.one_pos⟩;obtain⟨r0,m',q1,q2,q3,q,q5,q6⟩:=hp.good.sat b _ hb ⟨0,hT 0⟩;have:r0=r:=Option.some.inj (q1.symm.trans hbr);subst this;subst q6;obtain⟨rm,l,p1,p2,p3⟩:=hp.good.sat m _ hm ⟨0,hTm⟩;have:rm=q:=Option.some.inj (p1.symm.trans q5);subst this;have p3:MR ρ es l.toList:=p3;have hany:=p3.any (fun b=>decide (b<last))
     have hguard:(!seen.toArray.isEmpty&& !l.isEmpty&&l.all (fun e=>decide (e.born>=last)))=false:=by
      have e1:l.isEmpty=es.isEmpty:=by
       have:=p3.len;rw[Array.length_toList] at this;rw[Bool.eq_iff_iff];simp only[Array.isEmpty_iff_size_eq_zero,List.isEmpty_iff_length_eq_zero];omega
      have e2:l.all (fun e=>decide (e.born>=last))= !(es.any (fun e=>decide (e.born<last))):=by
       rw[hany,<-Array.all_toList,List.not_any_eq_all_not];congr 1;funext e;rw[Bool.eq_iff_iff];simp
      rw[e1,e2];simp only[Bool.or_eq_true] at hcond;rcases hcond with(h1|h1)|h1
      ·have:seen.toArray.isEmpty=true:=by simpa using h1
       rw[this];rfl
      ·rw[h1];simp
      ·rw[h1];simp
     have hleft:=p3.filter (fun b=> !seen.contains b)
     have hleft':(l.filter (fun e=> !seen.toArray.contains e.born)).toList=l.toList.filter (fun e=> !seen.contains e.born):=by
      rw[Array.toList_filter];congr 1;funext e;simp
     have hget:(getObj r0.blk).run P w= .ok (.mapIter (some rm.blk) since seen.toArray last) w:=by simp[getObj,Sem.run,q3]
     split at h
     ·rename_i hnil
      cases h;rw[hnil] at hleft;have hl0:=hleft.inv_nil
      have hl1:l.filter (fun e=> !seen.toArray.contains e.born)=#[]:=by
       apply Array.ext';rw[hleft',hl0]
      refine⟨ρ,w,_,?_,Post.same hp.good rfl rfl (Still.refl w),.tuple _ _ (.cons _ _ _ _ (.bool false) .nil)⟩;unfold Instr.next
      simp only[RB.at,q2,Nat.add_zero,Sem.run_bind,hget,Result.andThen_ok,MapKept.run_getObj_map p2,hguard,Bool.false_eq_true,if_false,hl1];simp[Question.forced]
     ·rename_i e hone
      split at h
      ·rename_i hborn
       cases h;rw[hone] at hleft;obtain⟨e',l',hl0,g1,g2,g3,g4⟩:=hleft.inv;have:=g4.inv_nil;subst this
       have hl1:l.filter (fun e=> !seen.toArray.contains e.born)=#[e']:=by
        apply Array.ext';rw[hleft',hl0]
       have hob:e'.born<since:=by omega
       have hnew:(#[e'].filter fun e=>decide (e.born<since))=#[e']:=by
        apply Array.ext';rw[Array.toList_filter];simp[hob]
       have hnew2:(#[e'].filter fun e=>decide (e.born>=since))=#[]:=by
        apply Array.ext';rw[Array.toList_filter];simp;omega
       have hset:(setObj r0.blk (.mapIter (some rm.blk) since (seen++[e'.born]).toArray clock)).run P w= .ok () {w with heap:=w.heap.setIfInBounds r0.blk (.mapIter (some rm.blk) since (seen++[e'.born]).toArray clock)}:=by simp[setObj,Sem.run,q3]
       have halt:=alt_set q3 (o':= .mapIter (some rm.blk) since (seen++[e'.born]).toArray clock);have hpost:=Post.alt (x':= .miter (some m) since (seen++[e.born]) clock) hp.good hb trivial ⟨0,hT 0⟩ hbr halt ⟨r0,some rm.blk,hbr,q2,by rw[halt.here,g3],rm,q5,rfl⟩
       refine⟨ρ,_,.tuple #[.bool true,e'.key,e'.val],?_,hpost.trans (Mono.put_note _ _ _ ⟨_,hb,trivial⟩) (Mono.note _ (.rd _ 0 1) ⟨.map es clock,by
        show(s.put b _).heap.get m=_
        rw[get_put,if_neg (fun e=>by subst e;rw[hm] at hb;cases hb)];exact hm,trivial⟩) (Post.same hpost.good rfl rfl (Still.refl _)),.tuple _ _ (.cons _ _ _ _ (.bool true) (.cons _ _ _ _ g1 (.cons _ _ _ _ g2 .nil)))⟩
       unfold Instr.next
       simp only[RB.at,q2,Nat.add_zero,Sem.run_bind,hget,Result.andThen_ok,MapKept.run_getObj_map p2,hguard,Bool.false_eq_true,if_false,hl1,hnew,hnew2];simp[Question.forced,hset]
      ·cases h
     ·cases h
    ·cases h
   ·cases h
  ·cases h
 ·cases h
theorem opNextS_mono{x v:AV}(h:opNextS x s=some (v,s')):Mono s s':=by
 unfold opNextS at h;split at h
 ·split at h
  ·rename_i hb
   split at h
   ·cases h;exact Mono.note _ _ ⟨_,hb,trivial⟩
   ·split at h
    ·cases h;exact Mono.put_note _ _ _ ⟨_,hb,trivial⟩
    ·cases h
  ·cases h
 ·cases h
theorem dec_ascii(l:List Nat)(hl:∀x∈l,x<256){i c:Nat}(h:l[i]? =some c)(hc:c<128):Utf8.decode ⟨(l.map UInt8.ofNat).toArray⟩ i=(c,1):=by
 have hi:=(List.getElem?_eq_some_iff.1 h).1
 have hg:((⟨(l.map UInt8.ofNat).toArray⟩:ByteArray).get! (i+0)).toNat=c:=by
  show(((l.map UInt8.ofNat).toArray)[i+0]!).toNat=c
  rw[Nat.add_zero,getElem!_pos _ _ (by simpa using hi)];simp only[List.getElem_toArray,List.getElem_map];have:l[i]=c:=(List.getElem?_eq_some_iff.1 h).2;rw[this,UInt8.toNat_ofNat'];omega
 unfold Utf8.decode;simp only[hg];rw[if_pos (by omega)]
theorem opNextS_ok{x v:AV}{x':Value}{ty:TypeId}(h:opNextS x s=some (v,s'))(hp:Pre ρ T s s' w)(hx:VR ρ x x'):OK1 P (Instr.next x' true ty) ρ T s w v s':=by
 unfold opNextS at h;split at h
 ·rename_i b
  cases hx with
  |ptr _ _ r hbr=>
  split at h
  ·rename_i l pos hb
   have hT0:T b 0:=by
    split at h
    ·cases h;exact hp.cov (.all b) (List.mem_cons_self ..) (lt_n hp.wf hb) b 0 rfl
    ·split at h
     ·cases h;exact hp.cov (.all b) (List.mem_cons_self ..) (lt_n hp.wf hb) b 0 rfl
     ·cases h
   obtain⟨r0,q1,q2,q3,q4⟩:=hp.good.sat b _ hb ⟨0,hT0⟩;have:r0=r:=Option.some.inj (q1.symm.trans hbr);subst this;have hget:(getObj r0.blk).run P w= .ok (.stringIter ⟨(l.map UInt8.ofNat).toArray⟩ pos) w:=by simp[getObj,Sem.run,q3]
   have hsz:(⟨(l.map UInt8.ofNat).toArray⟩:ByteArray).size=l.length:=by
    show((l.map UInt8.ofNat).toArray).size=l.length
    simp
   split at h
   ·rename_i hn
    cases h;refine⟨ρ,w,_,?_,Post.same hp.good rfl rfl (Still.refl w),.tuple _ _ (.cons _ _ _ _ (.bool false) .nil)⟩;unfold Instr.next
    simp only[RB.at,q2,Nat.add_zero,Sem.run_bind,hget,Result.andThen_ok];rw[if_neg (by rw[hsz];have:=List.getElem?_eq_none_iff.1 hn;omega)];rfl
   ·rename_i c hc
    split at h
    ·rename_i hlt
     cases h;have hset:(setObj r0.blk (.stringIter ⟨(l.map UInt8.ofNat).toArray⟩ (pos+1))).run P w= .ok () {w with heap:=w.heap.setIfInBounds r0.blk (.stringIter ⟨(l.map UInt8.ofNat).toArray⟩ (pos+1))}:=by simp[setObj,Sem.run,q3]
     have halt:=alt_set q3 (o':= .stringIter ⟨(l.map UInt8.ofNat).toArray⟩ (pos+1));have hpost:=Post.alt (x':= .siter l (pos+1)) hp.good hb trivial ⟨0,hT0⟩ hbr halt ⟨r0,hbr,q2,halt.here,q4⟩;refine⟨ρ,_,.tuple #[.bool true,goInt pos,.int .i32 c],?_,hpost,.tuple _ _ (.cons _ _ _ _ (.bool true) (.cons _ _ _ _ (.int _ _) (.cons _ _ _ _ (.int _ _) .nil)))⟩;unfold Instr.next
     simp only[RB.at,q2,Nat.add_zero,Sem.run_bind,hget,Result.andThen_ok];rw[if_pos (by rw[hsz];exact(List.getElem?_eq_some_iff.1 hc).1),dec_ascii l q4 hc hlt];simp only[Sem.run_bind,hset,Result.andThen_ok,Sem.run_pure]
    ·cases h
  ·cases h
 ·cases h
theorem opEntry_mono{x v:AV}(h:opEntry x s=some (v,s')):Mono s s':=by
 unfold opEntry at h;split at h
 ·split at h
  ·rename_i hb
   split at h
   ·rename_i hm _
    split at h
    ·split at h
     ·cases h;exact(Mono.note _ (.rd _ 0 1) ⟨_,hb,trivial⟩).trans (Mono.note _ (.rd _ 0 1) ⟨_,hm,trivial⟩)
     ·cases h
    ·cases h
   ·cases h
  ·cases h
 ·cases h
theorem MR.find{ρ:Env}(p:Nat->Bool):∀{es:List ME} {l:List MapEntry} {e:ME},MR ρ es l->es.find? (fun e=>p e.born)=some e->∃e',l.find? (fun e=>p e.born)=some e'/\VR ρ e.k e'.key/\VR ρ e.v e'.val
 |[],l,e,h,hf=>by cases hf
 |x::es,l,e,h,hf=>by
  obtain⟨e',l',rfl,g1,g2,g3,g4⟩:=h.inv;rw[List.find?_cons] at hf;rw[List.find?_cons,<-g3];cases hb:p x.born with
  |true=>rw[hb] at hf;cases hf;exact⟨e',rfl,g1,g2⟩
  |false=>rw[hb] at hf;exact MR.find p g4 hf
theorem opEntry_ok{x v:AV}{x':Value}(h:opEntry x s=some (v,s'))(hp:Pre ρ T s s' w)(hx:VR ρ x x'):OK1 P (Instr.entry x') ρ T s w v s':=by
 unfold opEntry at h;split at h
 ·rename_i b
  cases hx with
  |ptr _ _ r hbr=>
  split at h
  ·rename_i m since seen last hb
   split at h
   ·rename_i es clock stamp hm hst
    split at h
    ·rename_i hcl
     split at h
     ·rename_i e hf
      cases h;have hT0:T b 0:=hp.cov (.rd b 0 1) (List.mem_cons_of_mem _ (List.mem_cons_self ..)) (lt_n hp.wf hb) b 0 ⟨rfl,n_,Nat.one_pos⟩;have hT1:T m 0:=hp.cov (.rd m 0 1) (List.mem_cons_self ..) (lt_n hp.wf hm) m 0 ⟨rfl,n_,Nat.one_pos⟩;obtain⟨r0,m',q1,q2,q3,rm,q5,q6⟩:=hp.good.sat b _ hb ⟨0,hT0⟩;subst q6;have:r0=r:=Option.some.inj (q1.symm.trans hbr);subst this;obtain⟨r1,l,p1,p2,p3⟩:=hp.good.sat m _ hm ⟨0,hT1⟩;have:r1=rm:=Option.some.inj (p1.symm.trans q5);subst this;have hget:(getObj r0.blk).run P w= .ok (.mapIter (some r1.blk) since seen.toArray last) w:=by simp[getObj,Sem.run,q3]
      obtain⟨e',h1,h2,h3⟩:=MR.find (fun n=>n==stamp) p3 hf;refine⟨ρ,w,.tuple #[e'.key,e'.val],?_,Post.same hp.good rfl rfl (Still.refl w),.tuple _ _ (.cons _ _ _ _ h2 (.cons _ _ _ _ h3 .nil))⟩;have hbk:seen.toArray.back? =some stamp:=by rw[List.back?_toArray];exact hst
      have hfd:l.find? (fun e=>e.born==stamp)=some e':=by rw[<-Array.find?_toList];exact h1
      unfold Instr.entry;simp only[RB.at,q2,Nat.add_zero,Sem.run_bind,hget,Result.andThen_ok,hbk,MapKept.run_getObj_map p2,hcl];simp[hfd]
     ·cases h
    ·cases h
   ·cases h
  ·cases h
 ·cases h
end
section
variable {P:Program} {ρ:Env} {T:Nat->Nat->Prop} {s s':St} {w w':World}
theorem sliceDataA_ok{ts:Array TypeId}{ty:TypeId}{x v:AV}{x':Value}(h:sliceDataA [x]=some v)(hp:Pre ρ T s s w)(hx:VR ρ x x'):OK1 P (Builtin.unsafeSliceData_ ts ty #[x']) ρ T s w v s:=by
 unfold sliceDataA at h;split at h
 ·rename_i he
  cases he;cases h;cases hx;exact OK1.pure hp rfl .nilp
 ·rename_i b off len mc es he
  cases he;split at h
  ·rename_i hl
   cases h;cases hx with
   |slice _ _ _ _ _ r ad cap hb h1 h2 h3=>
   have hc:cap≠0:=by omega
   obtain⟨had,_⟩:=h3.resolve_left hc;subst had;exact OK1.pure hp (Lib.run_unsafeSliceData_row w ts ty _ _ _ hc) (.ptr b off r hb)
  ·cases h
 ·cases h
theorem liesAt_bytes'{e:TypeId}(hc:P.cellsOf e=1)(count off n:Nat)(hn:off+n<=count):liesAt P P.depth e count off e n=true:=by
 have hd:P.depth=(2*(P.types.size+Made.depth)+1)+1:=rfl;rw[hd];simp only[liesAt,Bool.or_eq_true];left;rw[hd];simp[rowAt,hc,hn,sameLayout,Nat.mod_one]
theorem loadBytes_ok:∀(xs:List Int) (a:Addr) (acc:ByteArray),(∀(j:Nat) x,xs[j]? =some x->w.cell? (a.add j)=some (.int .u8 x))->
 (loadBytes a acc xs.length).run P w= .ok ⟨acc.data++(xs.map fun n=>UInt8.ofNat n.toNat).toArray⟩ w
 |[],a,acc,_=>by simp[loadBytes]
 |x::l,a,acc,h=>by
  have h0:w.cell? a=some (.int .u8 x):=by
   have:=h 0 x rfl;simpa[Addr.add] using this
  have ih:=loadBytes_ok l (a.add 1) (acc.push x.toNat.toUInt8) (fun j y hy=>by
   have:=h (j+1) y (by simpa using hy)
   have e:(a.add 1).add j=a.add (j+1):=by
    unfold Addr.add;by_cases hj:j=0
    ·subst hj;simp
    ·simp[hj];omega
   rw[e];exact this)
  simp only[List.length_cons,loadBytes,Sem.run_bind,run_load,h0,Result.andThen];rw[ih];congr 1;apply ByteArray.ext;simp[ByteArray.push]
theorem stringA_mono{t:TypeId}{args:List AV}{v:AV}(h:stringA P t args s=some (v,s')):Mono s s':=by
 unfold stringA at h;split at h
 ·split at h
  ·cases h;exact Mono.refl _
  ·cases h
 ·split at h
  ·rename_i t0 cs0 hu hb
   split at h
   ·split at h
    ·rename_i cs s1 hr
     split at h
     ·cases h
      obtain⟨e1,m1⟩:=rd_mono hr;refine m1.trans (Mono.put_note _ _ _ ⟨.cells t0 cs0,?_,trivial⟩);rw[e1];exact hb
     ·cases h
    ·cases h
   ·cases h
  ·cases h
 ·cases h
theorem freeze_alt{w:World}{B:Nat}{c:Array Value}{t:TypeId}{fr:Nat×Nat}(h:w.heap[B]? =some (.cells c t fr))(o n:Nat)(hn:n≠0):∃fr',Alt w (w.freeze ⟨B,o,none⟩ n) B (.cells c t fr'):=by
 unfold World.freeze;rw[if_neg hn];obtain⟨lo,hi⟩:=fr;refine⟨if lo==hi then(o,o+n) else(min lo o,max hi (o+n)),rfl,rfl,rfl,by simp,?_,fun B' hB=> ?_⟩
 ·simp[Array.getElem?_modify,h]
 ·simp[Array.getElem?_modify,Ne.symm hB]
theorem stringA_ok{pt it ty:TypeId}{x y v:AV}{x' y':Value}(h:stringA P pt [x,y] s=some (v,s'))(hp:Pre ρ T s s' w)(hx:VR ρ x x')(hy:VR ρ y y'):OK1 P (Builtin.unsafeString_ #[pt,it] ty #[x',y']) ρ T s w v s':=by
 unfold stringA at h;split at h
 ·rename_i n he
  cases he;split at h
  ·rename_i hn
   cases h;subst hn;cases hx;cases hy;exact OK1.pure hp (Lib.run_unsafeString_none (P:=P) w pt it ty none) (VR.string ByteArray.empty)
  ·cases h
 ·rename_i b off n he
  cases he;split at h
  ·rename_i e t0 cs0 hu hb
   split at h
   ·rename_i hc
    obtain⟨c1,c2,c3,c4⟩:=hc;subst c1;split at h
    ·rename_i cs s1 hr
     split at h
     ·rename_i l hl
      cases h;cases hx with
      |ptr _ _ r hbr=>
      cases hy;obtain⟨e1,m1⟩:=rd_mono hr;have hb1:s1.heap.get b=some (.cells t0 cs0):=by rw[e1];exact hb
      have m2:Mono s1 ((s1.put b .dead).note (.all b)):=Mono.put_note _ _ _ ⟨_,hb1,trivial⟩;obtain⟨vs,h1,h2,h3⟩:=rd_ok hr (hp.first m2) hbr;obtain⟨xs,x1,x2,x3,x4⟩:=byteAt_ok hl h2;have hT:∃i,T b i:=⟨0,hp.cov (.all b) (List.mem_cons_self ..) (lt_n hp.wf hb) b 0 rfl⟩
      obtain⟨r0,c,fr,q1,q2,q3,q4,q5,q6⟩:=hp.good.sat b _ hb hT;have:r0=r:=Option.some.inj (q1.symm.trans hbr);subst this;have hxl:xs.length=n:=by rw[<-h1,x2,List.length_map]
      have hcsl:off+n<=cs0.length:=by
       have hr':=hr;unfold rdCells at hr';rw[hb] at hr';simp only at hr';split at hr'
       ·rename_i l1 hcut
        obtain⟨_,z2⟩:=cutL_ok hcut;exact z2.resolve_left (by omega)
       ·cases hr'
      have hpost1:Post ρ T s w ρ s1 w:=Post.same hp.good (by rw[e1];rfl) (by rw[e1];rfl) (Still.refl w);have hp1:=hp.next m1 m2 hpost1
      obtain⟨fr',halt⟩:=freeze_alt q2 (r0.base+off) n (by omega)
      have hpost2:Post ρ (Tn T s.n s1.n) s1 w ρ ((s1.put b .dead).note (.all b)) (w.freeze ⟨r0.blk,r0.base+off,none⟩ n):=
       Post.alt (x':= .dead) hp1.good hb1 trivial (let⟨i,hi⟩:=hT;⟨i,.inl hi⟩) hbr halt trivial
      refine⟨ρ,_,.string ⟨(l.map UInt8.ofNat).toArray⟩,?_,hpost1.trans m1 m2 hpost2,.str l x3⟩;have hlb:=loadBytes_ok (P:=P) (w:=w) xs (r0.at off) .empty (fun j x hj=>h3 j _ (by rw[x2,List.getElem?_map,hj];rfl));have hsh:w.shape? r0.blk=some (t0/2,c.size):=by simp[World.shape?,q2]
      have hlies:=liesAt_bytes' (P:=P) c2 (c.size/P.cellsOf (t0/2)) (r0.base+off) n (by
       rw[c2,Nat.div_one];have:=q4.1;omega)
      have h63:¬(9223372036854775807:Int)<(n:Int):=by omega
      have hn0:¬n=0:=by omega
      have hneg:¬(n:Int)<0:=by omega
      have hmax:IntKind.i64.max=9223372036854775807:=rfl
      have hdef:Builtin.unsafeString_ #[pt,it] ty #[.pointer (some (r0.at off)),.int .i64 (n:Int)]=
       (do
         let n<-asInt (.int .i64 (n:Int))
         if n<0 then runtimePanic (.error "unsafe.String: len out of range")
         if n>IntKind.i64.max then unsupported (.unsafePointer "String: a length above the largest int")
         if n=0 then pure (.string .empty)
         else if<-variablesAt (r0.at off) (<-elemOf pt) n.toNat then do
          let s<-loadBytes (r0.at off) .empty n.toNat
          freeze (r0.at off) n.toNat
          pure (.string s)
         else unsupported (.unsafePointer "String: not so many bytes at ptr")):=rfl
      show(Builtin.unsafeString_ #[pt,it] ty #[.pointer (some (r0.at off)),.int .i64 (n:Int)]).run P w=_
      rw[hdef];rw[hxl] at hlb;have hat:(r0.at off).off=r0.base+off:=rfl;have hat2:(r0.at off).block=r0.blk:=rfl;rw[x4] at hlb;simp[asInt,asIntOf,hmax,h63,hneg,hn0,variablesAt,hsh,elemOf,run_underlying hu,hlies,hlb,hat,hat2];rfl
     ·cases h
    ·cases h
   ·cases h
  ·cases h
 ·cases h
end
section
variable {P:Program} {ρ:Env} {T:Nat->Nat->Prop} {s s':St} {w w':World} {aa:AAct} {a:Act}
theorem lenA_mono{d:Option TypeDesc}{x v:AV}(h:lenA P d x s=some (v,s')):Mono s s':=by
 unfold lenA at h;split at h
 case h_5=>
  split at h
  ·rename_i hb
   cases h;exact Mono.note _ _ ⟨_,hb,trivial⟩
  ·cases h
 case h_7=>
  split at h
  ·cases h;exact Mono.refl _
  ·cases h
 all_goals first|(cases h;done)|(cases h;exact Mono.refl _)
theorem lenA_ok{ts:Array TypeId}{t ty:TypeId}{x v:AV}{x':Value}(ht:ts[0]? =some t)(h:lenA P (P.underlying t) x s=some (v,s'))(hp:Pre ρ T s s' w)(hx:VR ρ x x'):OK1 P (Builtin.len_ ts ty #[x']) ρ T s w v s':=by
 unfold lenA at h;split at h
 ·rename_i l hu
  cases h;cases hx with
  |str _ hl=>exact OK1.pure hp (v':= .int .i64 l.length) (by simp only[Builtin.len_,ht,List.getElem?_toArray,List.getElem?_cons_zero,Sem.run_bind,run_underlying hu,Result.andThen_ok,Sem.run_pure,str_size,goInt]) (.int _ _)
 ·rename_i e hu
  cases h;cases hx;exact OK1.pure hp (v':= .int .i64 0) (by simp only[Builtin.len_,ht,List.getElem?_toArray,List.getElem?_cons_zero,Sem.run_bind,run_underlying hu,Result.andThen_ok,Sem.run_pure,goInt];rfl) (.int _ _)
 ·rename_i e b off n mc es hu
  cases h;cases hx;exact OK1.pure hp (v':= .int .i64 n) (by simp only[Builtin.len_,ht,List.getElem?_toArray,List.getElem?_cons_zero,Sem.run_bind,run_underlying hu,Result.andThen_ok,Sem.run_pure,goInt]) (.int _ _)
 ·rename_i k e hu
  cases h;cases hx;exact OK1.pure hp (v':= .int .i64 0) (by simp only[Builtin.len_,ht,List.getElem?_toArray,List.getElem?_cons_zero,Sem.run_bind,run_underlying hu,Result.andThen_ok,Sem.run_pure,goInt]) (.int _ _)
 ·rename_i k e b hu
  split at h
  ·rename_i es clock hb
   cases h;cases hx with
   |map _ r hbr=>
   have hT:T b 0:=hp.cov (.rd b 0 1) (List.mem_cons_self ..) (lt_n hp.wf hb) b 0 ⟨rfl,n_,Nat.one_pos⟩;obtain⟨r0,l,q1,q2,q3⟩:=hp.good.sat b _ hb ⟨0,hT⟩;have:r0=r:=Option.some.inj (q1.symm.trans hbr);subst this;have q3:MR ρ es l.toList:=q3;have hl:=q3.len;rw[Array.length_toList] at hl;refine⟨ρ,w,.int .i64 es.length,?_,Post.same hp.good rfl rfl (Still.refl w),.int _ _⟩;simp only[Builtin.len_,ht,List.getElem?_toArray,List.getElem?_cons_zero,Sem.run_bind,run_underlying hu,Result.andThen_ok,MapKept.run_getObj_map q2,Sem.run_pure,goInt,hl]
  ·cases h
 ·rename_i _ n e hu
  cases h;exact OK1.pure hp (v':= .int .i64 n) (by simp only[Builtin.len_,ht,List.getElem?_toArray,List.getElem?_cons_zero,Sem.run_bind,run_underlying hu,Result.andThen_ok,Sem.run_pure,goInt]) (.int _ _)
 ·rename_i u _ hu
  split at h
  ·rename_i n e hu2
   cases h;exact OK1.pure hp (v':= .int .i64 n) (by simp only[Builtin.len_,ht,List.getElem?_toArray,List.getElem?_cons_zero,Sem.run_bind,run_underlying hu,run_underlying hu2,Result.andThen_ok,Sem.run_pure,goInt]) (.int _ _)
  ·cases h
 ·cases h
theorem foldMin_ok:∀{l:List AV} {vs:List Value} {x:AV} {x':Value} {v:AV},foldA minA x l=some v->VR ρ x x'->VRL ρ l vs->∃v',(vs.foldlM Builtin.min2 x').run P w= .ok v' w/\VR ρ v v'
 |[],_,x,x',v,h,hx,.nil=>by simp[foldA] at h;subst h;exact⟨x',rfl,hx⟩
 |y::l,_,x,x',v,h,hx,.cons _ y' _ vs hy ht=>by
  unfold foldA at h;split at h
  ·rename_i z hz
   unfold minA at hz;split at hz
   ·cases hz;cases hx;cases hy
    obtain⟨v',h1,h2⟩:=foldMin_ok h (.int _ _) ht;exact⟨v',by simp[Builtin.min2,h1],h2⟩
   ·cases hz
  ·cases h
theorem foldMax_ok:∀{l:List AV} {vs:List Value} {x:AV} {x':Value} {v:AV},foldA maxA x l=some v->VR ρ x x'->VRL ρ l vs->∃v',(vs.foldlM Builtin.max2 x').run P w= .ok v' w/\VR ρ v v'
 |[],_,x,x',v,h,hx,.nil=>by simp[foldA] at h;subst h;exact⟨x',rfl,hx⟩
 |y::l,_,x,x',v,h,hx,.cons _ y' _ vs hy ht=>by
  unfold foldA at h;split at h
  ·rename_i z hz
   unfold maxA at hz;split at hz
   ·cases hz;cases hx;cases hy
    obtain⟨v',h1,h2⟩:=foldMax_ok h (.int _ _) ht;exact⟨v',by simp[Builtin.max2,h1],h2⟩
   ·cases hz
  ·cases h
theorem aBuiltin_mono{b:Builtin}{ts:Array TypeId}{args:List AV}{v:AV}(hwf:WfS s)(h:aBuiltin P b ts args s=some (v,s')):Mono s s':=by
 unfold aBuiltin at h;split at h
 ·split at h
  ·exact lenA_mono h
  ·cases h
 ·split at h
  ·exact bAppend_mono hwf h
  ·exact bAppend_mono hwf h
  ·cases h
 ·split at h
  ·split at h
   ·cases h;exact Mono.refl _
   ·cases h
  ·cases h
 ·split at h
  ·split at h
   ·cases h;exact Mono.refl _
   ·cases h
  ·cases h
 ·split at h
  ·cases h;exact Mono.refl _
  ·cases h
 ·split at h
  ·exact stringA_mono h
  ·cases h
 ·split at h
  ·exact opDelete_mono (unit_inv h).1
  ·cases h
 ·cases h
theorem val_inv{x:Option AV}{v:AV}(h:val s x=some (v,s')):x=some v/\s'=s:=by
 unfold val at h;split at h
 ·cases h;exact⟨rfl,rfl⟩
 ·cases h
theorem aop_mono{o:Op}{v:AV}(hwf:WfS s)(h:aop P aa o s=some (v,s')):Mono s s':=by
 unfold aop at h;split at h
 case h_3=>split at h<;>first|(cases h;done)|(cases h;exact Mono.refl _)
 case h_4=>split at h<;>first|(cases h;done)|(cases h;exact Mono.new _ _)
 case h_5=>split at h<;>first|(cases h;done)|(cases h;exact Mono.new _ _)
 case h_7=>exact opBuildSlice_mono h
 case h_8=>exact opLoad_mono h
 case h_9=>exact opStore_mono (unit_inv h).1
 case h_10=>split at h<;>first|(cases h;done)|(cases h;exact Mono.refl _)
 case h_13=>
  split at h
  ·exact conv_mono h
  ·cases h
 case h_14=>split at h<;>first|(cases h;done)|(cases h;exact Mono.refl _)
 case h_16=>cases h;exact Mono.new _ _
 case h_17=>exact opMakeSlice_mono h
 case h_18=>
  split at h
  ·exact opSliceArr_mono h
  ·rw[(val_inv h).2];exact Mono.refl _
 case h_23=>
  split at h
  ·rename_i hx
   exact opLookupP_mono hx h
  ·exact opLookup_mono h
 case h_24=>exact opUpdate_mono (unit_inv h).1
 case h_25=>exact opUpdate_mono (unit_inv h).1
 case h_26=>exact opRange_mono h
 case h_27=>exact opNext_mono h
 case h_28=>exact opNextS_mono h
 case h_29=>exact opEntry_mono h
 case h_30=>
  split at h
  ·rw[(val_inv h).2];exact Mono.refl _
  ·cases h
 case h_31=>exact aBuiltin_mono hwf h
 all_goals first|(cases h;done)|(cases h;exact Mono.refl _)|(rw[(val_inv h).2];exact Mono.refl _)
def Yld(P:Program)(a:Act)(o:Oper)(w:World)(v:Value)(w':World):Prop:=(execOp a.eval o).run P w= .ok (.value v) w'\/((execOp a.eval o).run P w= .ok .skip w'/\v=undef)
def OpsR(ρ:Env)(aa:AAct)(a:Act)(o:Op):Prop:=∀x∈o.operands,VR ρ (aeval aa x) (a.eval x)
theorem args_ok{xs:Array Operand}(h:∀x∈xs,VR ρ (aeval aa x) (a.eval x)):VRL ρ (xs.toList.map (aeval aa)) (xs.map a.eval).toList:=by
 rw[Array.toList_map];exact VRL.map _ _ _ (fun x hx=>h x (Array.mem_toList_iff.1 hx))
theorem opt_ok{x:Option Operand}(h:∀y,x=some y->VR ρ (aeval aa y) (a.eval y)):VRO ρ (x.map (aeval aa)) (x.map a.eval):=by
 cases x with
 |none=>exact .none
 |some x=>exact .some _ _ (h x rfl)
theorem parts_ok{ps:Array (Nat×Operand)}(h:∀p∈ps,VR ρ (aeval aa p.2) (a.eval p.2)):PR ρ (parts aa ps) (ps.map fun(i,x)=>(i,a.eval x)).toList:=by
 unfold Rk.parts;rw[Array.toList_map]
 have:∀l:List (Nat×Operand),(∀p∈l,VR ρ (aeval aa p.2) (a.eval p.2))->PR ρ (l.map fun p=>(p.1,aeval aa p.2)) (l.map fun(i,x)=>(i,a.eval x)):=by
  intro l
  induction l with
  |nil=>exact fun _=> .nil
  |cons p l ih=>exact fun h=> .cons p.1 _ _ _ _ (h p (by simp)) (ih (fun q hq=>h q (by simp[hq])))
 exact this _ (fun p hp=>h p (Array.mem_toList_iff.1 hp))
theorem yld_pure{o:Oper}{m:Sem Value}{v:AV}{v':Value}(he:execOp a.eval o=do pure (.value (<-m)))(hp:Pre ρ T s s w)(hm:m.run P w= .ok v' w)(hv:VR ρ v v'):∃ρ' w' v',Yld P a o w v' w'/\Post ρ T s w ρ' s w'/\VR ρ' v v':=
 ⟨ρ,w,v',.inl (by rw[he];simp[hm]),Post.same hp.good rfl rfl (Still.refl w),hv⟩
theorem yld_ok1{o:Oper}{m:Sem Value}{v:AV}(he:execOp a.eval o=do pure (.value (<-m)))(h:OK1 P m ρ T s w v s'):∃ρ' w' v',Yld P a o w v' w'/\Post ρ T s w ρ' s' w'/\VR ρ' v v':=by
 obtain⟨ρ',w',v',h1,h2,h3⟩:=h;exact⟨ρ',w',v',.inl (by rw[he];simp[h1]),h2,h3⟩
theorem yld_unit{o:Oper}{m:Sem Unit}(he:execOp a.eval o=do m;pure .skip)(h:∃w',m.run P w= .ok () w'/\Post ρ T s w ρ s' w'):∃ρ' w' v',Yld P a o w v' w'/\Post ρ T s w ρ' s' w'/\VR ρ' undefA v':=by
 obtain⟨w',h1,h2⟩:=h;exact⟨ρ,w',undef,.inr ⟨by rw[he];simp[h1],rfl⟩,h2,undef_ok⟩
theorem aop_ok{o:Oper}{v:AV}(h:aop P aa o.op s=some (v,s'))(hp:Pre ρ T s s' w)(ha:OpsR ρ aa a o.op):∃ρ' w' v',Yld P a o w v' w'/\Post ρ T s w ρ' s' w'/\VR ρ' v v':=by
 unfold aop at h;split at h
 ·rename_i x ho
  cases h;exact⟨ρ,w,_,.inl (by unfold execOp;rw[ho];rfl),Post.same hp.good rfl rfl (Still.refl w),ha x (by rw[ho];simp[Op.operands])⟩
 ·rename_i x ho
  cases h;exact⟨ρ,w,_,.inl (by unfold execOp;rw[ho];rfl),Post.same hp.good rfl rfl (Still.refl w),ha x (by rw[ho];simp[Op.operands])⟩
 ·rename_i c x y ho
  split at h
  ·rename_i b hc
   cases h;have hcv:=ha c (by rw[ho];simp[Op.operands]);rw[hc] at hcv;generalize hcc:a.eval c=c' at hcv;cases hcv;refine⟨ρ,w,if b then a.eval x else a.eval y,.inl (by unfold execOp;rw[ho];simp[hcc,asBool]),Post.same hp.good rfl rfl (Still.refl w),?_⟩;cases b
   ·exact ha y (by rw[ho];simp[Op.operands])
   ·exact ha x (by rw[ho];simp[Op.operands])
  ·cases h
 ·rename_i t ho
  split at h
  ·rename_i z hz
   cases h;exact yld_ok1 (by unfold execOp;rw[ho]) (opAlloc_ok hz hp)
  ·cases h
 ·rename_i t x ho
  split at h
  ·rename_i c hc
   cases h;exact yld_ok1 (by unfold execOp;rw[ho]) (opBox_ok hc hp (ha x (by rw[ho];simp[Op.operands])))
  ·cases h
 ·rename_i t ps ho
  obtain⟨h1,rfl⟩:=val_inv h;obtain⟨v',h2,h3⟩:=opBuild_ok (P:=P) (ρ:=ρ) (w:=w) h1 (parts_ok (fun p hp=>ha p.2 (by rw[ho];simp[Op.operands];exact⟨p.1,hp⟩)));exact yld_pure (by unfold execOp;rw[ho]) hp h2 h3
 ·rename_i t len ps ho
  exact yld_ok1 (by unfold execOp;rw[ho]) (opBuildSlice_ok h hp (parts_ok (fun p hp=>ha p.2 (by rw[ho];simp[Op.operands];exact⟨p.1,hp⟩))))
 ·rename_i t x ho
  exact yld_ok1 (by unfold execOp;rw[ho]) (opLoad_ok h hp (ha x (by rw[ho];simp[Op.operands])))
 ·rename_i t x y ho
  obtain⟨h1,rfl⟩:=unit_inv h;exact yld_unit (by unfold execOp;rw[ho]) (opStore_ok h1 hp (ha x (by rw[ho];simp[Op.operands])) (ha y (by rw[ho];simp[Op.operands])))
 ·rename_i x ho
  have hxv:=ha x (by rw[ho];simp[Op.operands]);split at h
  ·rename_i b off hx
   cases h;rw[hx] at hxv;generalize hcc:a.eval x=x' at hxv;cases hxv with
   |ptr _ _ r hb=>exact⟨ρ,w,_,.inl (by unfold execOp;rw[ho];simp only[hcc];rfl),Post.same hp.good rfl rfl (Still.refl w),.ptr _ _ r hb⟩
  ·rename_i f k l hx
   cases h;rw[hx] at hxv;generalize hcc:a.eval x=x' at hxv;cases hxv with
   |func _ _ _ k' l' h1 h2=>exact⟨ρ,w,_,.inl (by unfold execOp;rw[ho];simp only[hcc];rfl),Post.same hp.good rfl rfl (Still.refl w),.func _ _ _ k' l' h1 h2⟩
  ·rename_i t v0 hx
   cases h;rw[hx] at hxv;generalize hcc:a.eval x=x' at hxv;cases hxv with
   |iface _ _ v1 h1=>exact⟨ρ,w,_,.inl (by unfold execOp;rw[ho];simp only[hcc];rfl),Post.same hp.good rfl rfl (Still.refl w),.iface _ _ v1 h1⟩
  ·cases h
 ·rename_i op t x y _ ho
  obtain⟨h1,rfl⟩:=val_inv h;obtain⟨v',h2,h3⟩:=bop_ok (P:=P) (ρ:=ρ) (w:=w) h1 (ha x (by rw[ho];simp[Op.operands])) (ha y (by rw[ho];simp[Op.operands]));exact yld_pure (by unfold execOp;rw[ho]) hp h2 h3
 ·rename_i op _ x ho
  obtain⟨h1,rfl⟩:=val_inv h;obtain⟨v',h2,h3⟩:=uop_ok (P:=P) (ρ:=ρ) (w:=w) h1 (ha x (by rw[ho];simp[Op.operands]));exact yld_pure (by unfold execOp;rw[ho]) hp h2 h3
 ·rename_i src dst x ho
  split at h
  ·rename_i hs
   exact yld_ok1 (by unfold execOp;rw[ho]) (conv_ok h (Option.isSome_iff_exists.1 hs) hp (ha x (by rw[ho];simp[Op.operands])))
  ·cases h
 ·rename_i t x ho
  split at h
  ·cases h
  ·rename_i d hd hu
   cases h;refine yld_pure (m:=Instr.makeInterface t (a.eval x)) (v':= .iface t (a.eval x)) (by unfold execOp;rw[ho]) hp ?_ (.iface _ _ _ (ha x (by rw[ho];simp[Op.operands])));cases d<;>first|(simp[Instr.makeInterface,run_underlying hu];done)|exact absurd rfl (hd _)
  ·cases h
 ·rename_i f first cap ho
  cases h;exact⟨ρ,w,_,.inl (by unfold execOp;rw[ho];rfl),Post.same hp.good rfl rfl (Still.refl w),.func _ _ _ _ _ (args_ok (fun x hx=>ha x (by rw[ho];simp[Op.operands,hx]))) (args_ok (fun x hx=>ha x (by rw[ho];simp[Op.operands,hx])))⟩
 ·rename_i t ho
  cases h;have hf:ρ s.n=none:=hp.fresh s.n (n_) (Nat.lt_succ_self _);refine⟨_,_,.map (some w.heap.size),.inl (by unfold execOp;rw[ho];simp[Instr.makeMap]),Post.made (o:= .map #[] 0) (r:=⟨w.heap.size,0,0⟩) hp.good hp.wf hf hp.tn (Add.push w _) rfl ⟨_,#[],Env.add_self _ _,(Add.push w _).here,MR.nil⟩,.map s.n _ (Env.add_self _ _)⟩
 ·rename_i t l c ho
  exact yld_ok1 (by unfold execOp;rw[ho]) (opMakeSlice_ok h hp (ha l (by rw[ho];simp[Op.operands])) (ha c (by rw[ho];simp[Op.operands])))
 ·rename_i t x lo hi mx ho
  split at h
  ·rename_i b off hx
   have hxv:=ha x (by rw[ho];simp[Op.operands]);rw[hx] at hxv;exact yld_ok1 (by unfold execOp;rw[ho]) (opSliceArr_ok h hp hxv (opt_ok (fun x hx=>ha x (by rw[ho];simp[Op.operands,hx]))) (opt_ok (fun x hx=>ha x (by rw[ho];simp[Op.operands,hx]))) (opt_ok (fun x hx=>ha x (by rw[ho];simp[Op.operands,hx]))))
  ·obtain⟨h1,rfl⟩:=val_inv h
   obtain⟨v',h2,h3⟩:=opSlice_ok (P:=P) (ρ:=ρ) (w:=w) h1 (ha x (by rw[ho];simp[Op.operands])) (opt_ok (fun x hx=>ha x (by rw[ho];simp[Op.operands,hx]))) (opt_ok (fun x hx=>ha x (by rw[ho];simp[Op.operands,hx]))) (opt_ok (fun x hx=>ha x (by rw[ho];simp[Op.operands,hx])));exact yld_pure (by unfold execOp;rw[ho]) hp h2 h3
 ·rename_i t x f ho
  obtain⟨h1,rfl⟩:=val_inv h;obtain⟨v',h2,h3⟩:=opFieldAddr_ok (P:=P) (ρ:=ρ) (w:=w) h1 (ha x (by rw[ho];simp[Op.operands]));exact yld_pure (by unfold execOp;rw[ho]) hp h2 h3
 ·rename_i t x f ho
  obtain⟨h1,rfl⟩:=val_inv h;obtain⟨v',h2,h3⟩:=opField_ok (P:=P) (ρ:=ρ) (w:=w) h1 (ha x (by rw[ho];simp[Op.operands]));exact yld_pure (by unfold execOp;rw[ho]) hp h2 h3
 ·rename_i t x i ho
  obtain⟨h1,rfl⟩:=val_inv h;obtain⟨v',h2,h3⟩:=opIndexAddr_ok (P:=P) (ρ:=ρ) (w:=w) h1 (ha x (by rw[ho];simp[Op.operands])) (ha i (by rw[ho];simp[Op.operands]));exact yld_pure (by unfold execOp;rw[ho]) hp h2 h3
 ·rename_i t x i ho
  obtain⟨h1,rfl⟩:=val_inv h;obtain⟨v',h2,h3⟩:=opIndex_ok (P:=P) (ρ:=ρ) (w:=w) h1 (ha x (by rw[ho];simp[Op.operands])) (ha i (by rw[ho];simp[Op.operands]));exact yld_pure (by unfold execOp;rw[ho]) hp h2 h3
 ·rename_i t x i ok ho
  split at h
  ·rename_i b es hx
   exact yld_ok1 (by unfold execOp;rw[ho]) (opLookupP_ok hx h hp (ha x (by rw[ho];simp[Op.operands])) (ha i (by rw[ho];simp[Op.operands])))
  exact yld_ok1 (by unfold execOp;rw[ho]) (opLookup_ok h hp (ha x (by rw[ho];simp[Op.operands])) (ha i (by rw[ho];simp[Op.operands])))
 ·rename_i t m k x ho
  obtain⟨h1,rfl⟩:=unit_inv h;exact yld_unit (by unfold execOp;rw[ho]) (opUpdate_ok h1 hp (ha m (by rw[ho];simp[Op.operands])) (ha k (by rw[ho];simp[Op.operands])) (ha x (by rw[ho];simp[Op.operands])))
 ·rename_i t m k x ho
  obtain⟨h1,rfl⟩:=unit_inv h;exact yld_unit (by unfold execOp;rw[ho]) (opUpdate_ok h1 hp (ha m (by rw[ho];simp[Op.operands])) (ha k (by rw[ho];simp[Op.operands])) (ha x (by rw[ho];simp[Op.operands])))
 ·rename_i t x ho
  exact yld_ok1 (by unfold execOp;rw[ho]) (opRange_ok h hp (ha x (by rw[ho];simp[Op.operands])))
 ·rename_i x ho
  exact yld_ok1 (by unfold execOp;rw[ho]) (opNext_ok (ty:=o.type) h hp (ha x (by rw[ho];simp[Op.operands])))
 ·rename_i x ho
  exact yld_ok1 (by unfold execOp;rw[ho]) (opNextS_ok (ty:=o.type) h hp (ha x (by rw[ho];simp[Op.operands])))
 ·rename_i x ho
  exact yld_ok1 (by unfold execOp;rw[ho]) (opEntry_ok h hp (ha x (by rw[ho];simp[Op.operands])))
 ·rename_i t i ho
  split at h
  ·rename_i vs hx
   obtain⟨h1,rfl⟩:=val_inv h;have hxv:=ha t (by rw[ho];simp[Op.operands]);rw[hx] at hxv;generalize hcc:a.eval t=x' at hxv;cases hxv with
   |tuple _ vs' hvs=>
   obtain⟨v',h2,h3⟩:=hvs.aget h1;exact yld_pure (m:=Instr.extract (.tuple vs') i) (by unfold execOp;rw[ho];simp only[hcc]) hp (by simp[Instr.extract,h2]) h3
  ·cases h
 ·rename_i b args argTypes ho
  have hargs:=args_ok (ρ:=ρ) (aa:=aa) (a:=a) (xs:=args) (fun x hx=>ha x (by rw[ho];simp[Op.operands,Call.operands,hx]))
  have he:∃c:Array Bool,∀w1,(execOp a.eval o).run P w1=(builtin b argTypes o.type c (args.map a.eval)).run P w1:=⟨_,fun w1=>by
   unfold execOp;rw[ho];simp only[resolve,invoke,Sem.run_bind,Sem.run_pure,Result.andThen_ok];rfl⟩
  obtain⟨cc,he⟩:=he;generalize hal:args.toList.map (aeval aa)=al at h hargs;generalize hvl:args.map a.eval=vl at hargs he
  have kv:∀(m:Sem Value),builtin b argTypes o.type cc vl=(do pure (.value (<-m)))->OK1 P m ρ T s w v s'->∃ρ' w' v',Yld P a o w v' w'/\Post ρ T s w ρ' s' w'/\VR ρ' v v':=fun m hb ⟨ρ',w',v',k1,k2,k3⟩=>by
   refine⟨ρ',w',v',.inl ?_,k2,k3⟩;rw[he,hb];simp[k1]
  have one_:∀{x:AV},VRL ρ [x] vl.toList->∃x',vl=#[x']/\VR ρ x x':=fun{x} hh=>by
   rcases vl with⟨l⟩
   cases hh with
   |cons _ x' _ _ hx ht=>cases ht;exact⟨x',rfl,hx⟩
  have two_:∀{x y:AV},VRL ρ [x,y] vl.toList->∃x' y',vl=#[x',y']/\VR ρ x x'/\VR ρ y y':=fun{x y} hh=>by
   rcases vl with⟨l⟩
   cases hh with
   |cons _ x' _ _ hx ht=>cases ht with
    |cons _ y' _ _ hy ht=>cases ht;exact⟨x',y',rfl,hx,hy⟩
  have more_:∀{x:AV} {l:List AV},VRL ρ (x::l) vl.toList->∃x' l',vl=⟨x'::l'⟩/\VR ρ x x'/\VRL ρ l l':=fun{x l} hh=>by
   rcases vl with⟨l⟩
   cases hh with
   |cons _ x' _ l' hx ht=>exact⟨x',l',rfl,hx,ht⟩
  unfold aBuiltin at h;split at h
  ·split at h
   ·rename_i x
    obtain⟨x',rfl,hx⟩:=one_ hargs;cases ht:argTypes[0]?with
    |none=>rw[ht] at h;simp[lenA] at h
    |some t=>
     rw[ht] at h;exact kv (Builtin.len_ argTypes o.type #[x']) rfl (lenA_ok ht h hp hx)
   ·cases h
  ·split at h
   ·rename_i t x y e ht hu
    obtain⟨x',y',rfl,hx,hy⟩:=two_ hargs;obtain⟨u,hu1,hu2⟩:=Option.bind_eq_some_iff.1 hu
    have happ:Builtin.append_ argTypes o.type #[x',y']=Builtin.append_ #[t,u] o.type #[x',y']:=by
     unfold Builtin.append_;simp only[ht,hu1,List.getElem?_toArray,List.getElem?_cons_zero,List.getElem?_cons_succ]
    exact kv (Builtin.append_ #[t,u] o.type #[x',y']) (by rw[<-happ];rfl) (bAppend_ok h (.inl ⟨_,hu2⟩) hp hx hy)
   ·rename_i t x y ht hu
    obtain⟨x',y',rfl,hx,hy⟩:=two_ hargs;obtain⟨u,hu1,hu2⟩:=Option.bind_eq_some_iff.1 hu
    have happ:Builtin.append_ argTypes o.type #[x',y']=Builtin.append_ #[t,u] o.type #[x',y']:=by
     unfold Builtin.append_;simp only[ht,hu1,List.getElem?_toArray,List.getElem?_cons_zero,List.getElem?_cons_succ]
    exact kv (Builtin.append_ #[t,u] o.type #[x',y']) (by rw[<-happ];rfl) (bAppend_ok h (.inr hu2) hp hx hy)
   ·cases h
  ·split at h
   ·rename_i x l
    split at h
    ·rename_i hf
     cases h;obtain⟨x',l',rfl,hx,hl⟩:=more_ hargs;obtain⟨v',h1,h2⟩:=foldMin_ok (P:=P) (w:=w) hf hx hl;exact kv (Builtin.min_ argTypes o.type ⟨x'::l'⟩) rfl (OK1.pure hp (by simpa[Builtin.min_] using h1) h2)
    ·cases h
   ·cases h
  ·split at h
   ·rename_i x l
    split at h
    ·rename_i hf
     cases h;obtain⟨x',l',rfl,hx,hl⟩:=more_ hargs;obtain⟨v',h1,h2⟩:=foldMax_ok (P:=P) (w:=w) hf hx hl;exact kv (Builtin.max_ argTypes o.type ⟨x'::l'⟩) rfl (OK1.pure hp (by simpa[Builtin.max_] using h1) h2)
    ·cases h
   ·cases h
  ·split at h
   ·rename_i hf
    cases h;rcases al with _|⟨x,_|⟨y,l⟩⟩
    ·simp[sliceDataA] at hf
    ·obtain⟨x',rfl,hx⟩:=one_ hargs
     exact kv (Builtin.unsafeSliceData_ argTypes o.type #[x']) rfl (sliceDataA_ok hf hp hx)
    ·unfold sliceDataA at hf
     split at hf<;>rename_i he<;>first|(cases he;done)|cases hf
   ·cases h
  ·split at h
   ·rename_i t it hts
    have hat:argTypes=#[t,it]:=by rw[<-Array.toList_inj];exact hts
    rcases al with _|⟨x,_|⟨y,_|⟨z,l⟩⟩⟩
    ·simp[stringA] at h
    ·unfold stringA at h
     split at h<;>rename_i he<;>first|(cases he;done)|cases h
    ·obtain⟨x',y',rfl,hx,hy⟩:=two_ hargs
     refine kv (Builtin.unsafeString_ argTypes o.type #[x',y']) rfl ?_;rw[hat];exact stringA_ok h hp hx hy
    ·unfold stringA at h
     split at h<;>rename_i he<;>first|(cases he;done)|cases h
   ·cases h
  ·split at h
   ·rename_i t m k ht
    obtain⟨m',k',rfl,hm,hk⟩:=two_ hargs;obtain⟨h1,rfl⟩:=unit_inv h;exact kv (Builtin.delete_ argTypes o.type #[m',k']) rfl (opDelete_ok ht h1 hp hm hk)
   ·cases h
  ·cases h
 ·cases h
end
end Go.Proofs.YtnocnbklhikmnaaGreatDoor.Rk
namespace Go.Proofs.YtnocnbklhikmnaaGreatDoor
variable{p:ByteArray×ByteArray}
open Go Go.RowKit Go.BigFrame Go.Maps Go.WideMaps
theorem str_law:Keyed Tryz.prog 9:=Keyed.of_law (string_law Tryz.underlying9)
theorem str_inj:∀x y:ByteArray,Value.string x=Value.string y->x=y:=fun x y h=>by injection h
theorem str_key(s:ByteArray)(h:s.size<=1048576):keyOf Tryz.prog 9 (.string s)=some (.string s.data.toList):=keyOf_string_mk Tryz.underlying9 (Nat.le_trans h (by decide))
theorem str_zero(w:World):(zeroValue 9).run Tryz.prog w= .ok (.string ⟨#[]⟩) w:=Tryz.zeroValue9 w
theorem eqT_iff{a b:ByteArray}:M.eqT a b=true<->a=b:=by
 unfold M.eqT;rw[beq_iff_eq];constructor
 ·intro h
  cases a;cases b;simp at h;rw[h]
 ·intro h
  rw[h]
def lookTo(l:List (ByteArray×ByteArray))(k:Nat)(key:ByteArray):Option ByteArray:=M.look key (l.take k)
theorem look_append{β:Type}(key:ByteArray):∀(l:List (ByteArray×β)) (p:ByteArray×β),M.look key (l++[p])=match M.look key l with
  |some v=>some v
  |none=>if p.1=key then some p.2 else none
 |[],p=>by
  simp only[List.nil_append,M.look];by_cases h:p.1=key
  ·rw[if_pos h,if_pos (eqT_iff.2 h)]
  ·rw[if_neg h,if_neg (fun e=>h (eqT_iff.1 e))]
 |(k,v)::l,p=>by
  simp only[List.cons_append,M.look];split
  ·rfl
  ·exact look_append key l p
theorem lookTo_succ{l:List (ByteArray×ByteArray)}{k:Nat}(h:l[k]? =some p)(key:ByteArray):lookTo l (k+1) key=match lookTo l k key with
 |some v=>some v
 |none=>if p.1=key then some p.2 else none:=by
 unfold lookTo;rw[List.take_add_one,h,Option.toList_some,look_append];cases M.look key (l.take k)<;>rfl
theorem EPair.inv{w:World}{S:Nat->Prop}{cs:List Value}(h:EPair.R w S cs p):cs=[.string p.1,.string p.2]/\p.1.size<=1048576/\p.2.size<=1048576:=by
 obtain⟨h1,h2⟩:=h;exact⟨h1,h2⟩
abbrev MapS(w:World)(b:Nat)(f:ByteArray->Option ByteArray):Prop:=MapT Tryz.prog 9 Value.string w b (fun x=>(f x).map Value.string)
theorem found_any(tn key:ByteArray)(A:Option Addr)(c:Nat)(l:List (ByteArray×ByteArray))(S:Nat->Prop)(w:World)(hS:∀b,S b->b<w.heap.size)(hok:SOk A l.length c)(hl:LAt EPair w S A l.length l)(hk:key.size<=1048576):
 Calls Tryz.prog 231 #[.agg #[.string tn,.slice A l.length c],.string key] w fun e w'=>e= .returned (.tuple #[.string ((M.look key l).getD ⟨#[]⟩),.bool (M.look key l).isSome])/\Below w.heap.size w w':=by
 have hm:=hok.le;have HL:=q_ hl;have HS:=q_ hS;have HT:=q_ (fun k p (h:l[k]? =some p)=>lookTo_succ h);have HA:=q_ (show lookTo l l.length key=M.look key l by unfold lookTo;rw[List.take_length]);obtain⟨w1,hw1⟩:∃w1,w1=w.alloc (.cells #[.string tn,.slice A l.length c] 200):=⟨_,rfl⟩
 obtain⟨w2,hw2⟩:∃w2,w2=w1.alloc (.map #[] 0):=⟨_,rfl⟩
 have s1:w1.heap.size=w.heap.size+1:=by rw[hw1];simp
 have s2:w2.heap.size=w.heap.size+2:=by rw[hw2];simp[s1]
 have X1:=q_ (show Blk w2 w.heap.size 200 #[.string tn,.slice A l.length c] by rw[hw2,hw1];exact(Blk.new w _ _).alloc _);have M2:=q_ (show MapS w2 (w.heap.size+1) (lookTo l 0) by rw[hw2,<-s1];exact MapT.made w1 _ _ _);have B2:=q_ (show Below w.heap.size w w2 by rw[hw2,hw1];exact((Below.refl _ w).alloc (n_) _).alloc (by simp) _);clear hl hS hok;generalize hml:l.length=m at*;have z1:=X1.o.cell;have hmm:= @run_makeMap Tryz.prog;go_enter Tryz.func231,Tryz.ntmps231;go_wp2_with fail;rw[<-hw1,<-hw2];clear hw1 hw2;go_wp2_with fail;go_loopw [17] (fun x wr=>∃k:Nat,k<=m/\x= .int .i64 k/\Below w.heap.size w wr/\w.heap.size+2<=wr.heap.size/\MapS wr (w.heap.size+1) (lookTo l k)) (fun x _=>m-(intOf x).toNat)
 case atStart=>exact⟨0,by omega,rfl,B2.o,by omega,M2.o⟩
 case round=>
  obtain⟨k,hk1,rfl,hb,hsz,hmap⟩:=hrel;have HB:=q_ hb;have HM:=q_ hmap;clear hb hmap;by_cases hlt:k<m
  ·have q1:decide ((k:Int)<(m:Int))=true:=by simp;omega
   obtain⟨a,p,u,v,rfl,hbS,hx,hr,hc1,hc2⟩:=(HL.o.below HB.o HS.o).in2 rfl hlt;obtain⟨e5,hp1,hp2⟩:=EPair.inv hr;injection e5 with e5 e6;injection e6 with e6 _;subst e5 e6;have hs:=HT.o k p hx;obtain⟨w3,hw3⟩:∃w3,w3=wr.alloc (.cells #[.string p.1,.string p.2] 290):=⟨_,rfl⟩
   have E3:=q_ (show Blk w3 wr.heap.size 290 #[.string p.1,.string p.2] by rw[hw3];exact Blk.new wr _ _);have B3:=q_ (show Below w.heap.size w w3 by rw[hw3];exact HB.o.alloc HB.o.size _);have s3:w3.heap.size=wr.heap.size+1:=by rw[hw3];simp
   have M3:=q_ (show MapS w3 (w.heap.size+1) (lookTo l k) by rw[hw3];exact HM.o.below ((Below.refl wr.heap.size wr).alloc (n_) _) (by omega));have hlook:=M3.o.look str_law Tryz.underlying288 str_inj (str_key p.1 hp1) (str_zero w3) true;have z3:=E3.o.cell;clear hx hr;cases hq:lookTo l k p.1 with
   |some v0=>
    rw[hq] at hlook;simp only[if_true,Option.map_some,Option.getD_some,Option.isSome_some] at hlook
    have H4:=q_ (show∀y,lookTo l (k+1) y=lookTo l k y from fun y=>by
     rw[hs y];cases hy:lookTo l k y with
     |some v=>rfl
     |none=>exact if_neg (fun e=>by rw[<-e,hq] at hy;cases hy))
    clear hs;subst hw3;go_wp2_with fail;go_roundw
    case rel=>exact⟨k+1,by omega,by go_num,B3.o,by omega,M3.o.congr (fun y=>by rw[H4.o])⟩
    case measure=>simp[intOf];omega
   |none=>
    rw[hq] at hlook;simp only[if_true,Option.map_none,Option.getD_none,Option.isSome_none] at hlook;obtain⟨w4,hstore,hmap4,hg4⟩:=M3.o.store str_law Tryz.underlying288 str_inj (str_key p.1 hp1) (.string p.2)
    have H4:=q_ (show MapS w4 (w.heap.size+1) (lookTo l (k+1)) from hmap4.congr (fun y=>by
     rw[hs y];by_cases hy:y=p.1
     ·subst hy
      rw[if_pos rfl,hq];simp
     ·rw[if_neg hy]
      cases lookTo l k y with
      |some v=>rfl
      |none=>
       rw[if_neg (fun e:p.1=y=>hy e.symm)]))
    have B4:=q_ (below_gr B3.o hg4 (by omega));have S4:=q_ hg4.size;clear hs hmap4 hg4;subst hw3;go_wp2_with fail;go_roundw
    case rel=>exact⟨k+1,by omega,by go_num,B4.o,by have:=S4.o;omega,H4.o⟩
    case measure=>simp[intOf];omega
  ·have q1:decide ((k:Int)<(m:Int))=false:=by simp;omega
   obtain rfl:k=m:=by omega
   have hlook:=HM.o.look str_law Tryz.underlying288 str_inj (str_key key hk) (str_zero wr) true;rw[HA.o] at hlook;go_wp2_with fail;go_ret2;exact⟨rfl,HB.o⟩
end Go.Proofs.YtnocnbklhikmnaaGreatDoor
