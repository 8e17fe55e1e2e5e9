/- Part 7 of the proof. -/
import Derived.Test.YtpohlhkgbmdieaaGreatDoorW6
import Derived.RangeFuncRecord
import Derived.OrdersIn
import Derived.TacticsIn
set_option linter.unusedVariables false
set_option maxRecDepth 1000000
set_option maxHeartbeats 16000000
namespace Go.Proofs.YtpohlhkgbmdieaaGreatDoor.Rk
open Go
section
variable {P:Program} {ρ:Env} {T:Nat->Nat->Prop} {s s':St} {w w':World} {aa:bI} {a:Act}
theorem Ni{d:Option TypeDesc}{x v:AV}(h:MI P d x s=some (v,s')):aF s s':=by
 unfold MI at h;split at h
 case h_5=>
  split at h
  ·rename_i hb
   cases h;exact aF.note _ _ ⟨_,hb,trivial⟩
  ·cases h
 case h_7=>
  split at h
  ·cases h;exact aF.refl _
  ·cases h
 all_goals first|(cases h;done)|(cases h;exact aF.refl _)
theorem Vz{ts:Array TypeId}{t ty:TypeId}{x v:AV}{x':Value}(ht:ts[0]? =some t)(h:MI P (P.underlying t) x s=some (v,s'))(hp:Pre ρ T s s' w)(hx:VR ρ x x'):fS P (Builtin.len_ ts ty #[x']) ρ T s w v s':=by
 unfold MI at h;split at h
 ·rename_i l hu
  cases h;cases hx with
  |str _ hl=>exact fS.pure hp (v':= .int .i64 l.length) (by simp only[Builtin.len_,ht,List.getElem?_toArray,List.getElem?_cons_zero,Sem.run_bind,run_underlying hu,Result.andThen_ok,Sem.run_pure,E6,goInt]) (.int _ _)
 ·rename_i e hu
  cases h;cases hx;exact fS.pure hp (v':= .int .i64 0) (by simp only[Builtin.len_,ht,List.getElem?_toArray,List.getElem?_cons_zero,Sem.run_bind,run_underlying hu,Result.andThen_ok,Sem.run_pure,goInt];rfl) (.int _ _)
 ·rename_i e b off n mc es hu
  cases h;cases hx;exact fS.pure hp (v':= .int .i64 n) (by simp only[Builtin.len_,ht,List.getElem?_toArray,List.getElem?_cons_zero,Sem.run_bind,run_underlying hu,Result.andThen_ok,Sem.run_pure,goInt]) (.int _ _)
 ·rename_i k e hu
  cases h;cases hx;exact fS.pure hp (v':= .int .i64 0) (by simp only[Builtin.len_,ht,List.getElem?_toArray,List.getElem?_cons_zero,Sem.run_bind,run_underlying hu,Result.andThen_ok,Sem.run_pure,goInt]) (.int _ _)
 ·rename_i k e b hu
  split at h
  ·rename_i es clock hb
   cases h;cases hx with
   |map _ r hbr=>
   have hT:T b 0:=hp.o8 (.rd b 0 1) (List.mem_cons_self ..) (fY hp.wf hb) b 0 ⟨rfl,n_,Nat.one_pos⟩;obtain⟨r0,l,q1,q2,q3⟩:=hp.good.sat b _ hb ⟨0,hT⟩;have:r0=r:=i_ (q1.symm.trans hbr);subst this;have q3:MR ρ es l.toList:=q3;have hl:=q3.len;rw[Array.length_toList] at hl;refine⟨ρ,w,.int .i64 es.length,?_,Post.same hp.good rfl rfl (Still.refl w),.int _ _⟩;simp only[Builtin.len_,ht,List.getElem?_toArray,List.getElem?_cons_zero,Sem.run_bind,run_underlying hu,Result.andThen_ok,MapKept.run_getObj_map q2,Sem.run_pure,goInt,hl]
  ·cases h
 ·rename_i _ n e hu
  cases h;exact fS.pure hp (v':= .int .i64 n) (by simp only[Builtin.len_,ht,List.getElem?_toArray,List.getElem?_cons_zero,Sem.run_bind,run_underlying hu,Result.andThen_ok,Sem.run_pure,goInt]) (.int _ _)
 ·rename_i u _ hu
  split at h
  ·rename_i n e nv
   cases h;exact fS.pure hp (v':= .int .i64 n) (by simp only[Builtin.len_,ht,List.getElem?_toArray,List.getElem?_cons_zero,Sem.run_bind,run_underlying hu,run_underlying nv,Result.andThen_ok,Sem.run_pure,goInt]) (.int _ _)
  ·cases h
 ·cases h
theorem xd:∀{l:List AV} {vs:List Value} {x:AV} {x':Value} {v:AV},qi YF x l=some v->VR ρ x x'->bO ρ l vs->∃v',(vs.foldlM Builtin.min2 x').run P w= .ok v' w/\VR ρ v v'
 |[],_,x,x',v,h,hx,.nil=>by simp[qi] at h;subst h;exact⟨x',rfl,hx⟩
 |y::l,_,x,x',v,h,hx,.cons _ y' _ vs hy ht=>by
  unfold qi at h;split at h
  ·rename_i z hz
   unfold YF at hz;split at hz
   ·cases hz;cases hx;cases hy
    obtain⟨v',h1,h2⟩:=xd h (.int _ _) ht;exact⟨v',by simp[Builtin.min2,h1],h2⟩
   ·cases hz
  ·cases h
theorem xe:∀{l:List AV} {vs:List Value} {x:AV} {x':Value} {v:AV},qi YG x l=some v->VR ρ x x'->bO ρ l vs->∃v',(vs.foldlM Builtin.max2 x').run P w= .ok v' w/\VR ρ v v'
 |[],_,x,x',v,h,hx,.nil=>by simp[qi] at h;subst h;exact⟨x',rfl,hx⟩
 |y::l,_,x,x',v,h,hx,.cons _ y' _ vs hy ht=>by
  unfold qi at h;split at h
  ·rename_i z hz
   unfold YG at hz;split at hz
   ·cases hz;cases hx;cases hy
    obtain⟨v',h1,h2⟩:=xe h (.int _ _) ht;exact⟨v',by simp[Builtin.max2,h1],h2⟩
   ·cases hz
  ·cases h
theorem xX{b:Builtin}{ts:Array TypeId}{args:List AV}{v:AV}(bf:ki s)(h:qj P b ts args s=some (v,s')):aF s s':=by
 unfold qj at h;split at h
 ·split at h
  ·exact Ni h
  ·cases h
 ·split at h
  ·exact qC bf h
  ·exact qC bf h
  ·cases h
 ·split at h
  ·split at h
   ·cases h;exact aF.refl _
   ·cases h
  ·cases h
 ·split at h
  ·split at h
   ·cases h;exact aF.refl _
   ·cases h
  ·cases h
 ·split at h
  ·cases h;exact aF.refl _
  ·cases h
 ·split at h
  ·exact Cb h
  ·cases h
 ·split at h
  ·exact xU (gV h).1
  ·cases h
 ·cases h
theorem eM{x:Option AV}{v:AV}(h:val s x=some (v,s')):x=some v/\s'=s:=by
 unfold val at h;split at h
 ·cases h;exact⟨rfl,rfl⟩
 ·cases h
theorem R8{o:Op}{v:AV}(bf:ki s)(h:aop P aa o s=some (v,s')):aF s s':=by
 unfold aop at h;split at h
 case h_3=>split at h<;>first|(cases h;done)|(cases h;exact aF.refl _)
 case h_4=>split at h<;>first|(cases h;done)|(cases h;exact aF.new _ _)
 case h_5=>split at h<;>first|(cases h;done)|(cases h;exact aF.new _ _)
 case h_7=>exact qB h
 case h_8=>exact mU h
 case h_9=>exact BP (gV h).1
 case h_10=>split at h<;>first|(cases h;done)|(cases h;exact aF.refl _)
 case h_13=>
  split at h
  ·exact M8 h
  ·cases h
 case h_14=>split at h<;>first|(cases h;done)|(cases h;exact aF.refl _)
 case h_16=>cases h;exact aF.new _ _
 case h_17=>exact rN h
 case h_18=>
  split at h
  ·exact tN h
  ·rw[(eM h).2];exact aF.refl _
 case h_23=>
  split at h
  ·rename_i hx
   exact xc hx h
  ·exact xT h
 case h_24=>exact ox (gV h).1
 case h_25=>exact ox (gV h).1
 case h_26=>exact BX h
 case h_27=>exact Fc h
 case h_28=>exact BZ h
 case h_29=>exact Ca h
 case h_30=>
  split at h
  ·rw[(eM h).2];exact aF.refl _
  ·cases h
 case h_31=>exact xX bf h
 all_goals first|(cases h;done)|(cases h;exact aF.refl _)|(rw[(eM h).2];exact aF.refl _)
def Yld(P:Program)(a:Act)(o:Oper)(w:World)(v:Value)(w':World):Prop:=(execOp a.eval o).run P w= .ok (.value v) w'\/((execOp a.eval o).run P w= .ok .skip w'/\v=undef)
def Za(ρ:Env)(aa:bI)(a:Act)(o:Op):Prop:=∀x∈o.operands,VR ρ (aZ aa x) (a.eval x)
theorem uu{xs:Array Operand}(h:∀x∈xs,VR ρ (aZ aa x) (a.eval x)):bO ρ (xs.toList.map (aZ aa)) (xs.map a.eval).toList:=by
 rw[Array.toList_map];exact bO.map _ _ _ (fun x hx=>h x (Array.mem_toList_iff.1 hx))
theorem rQ{x:Option Operand}(h:∀y,x=some y->VR ρ (aZ aa y) (a.eval y)):Nc ρ (x.map (aZ aa)) (x.map a.eval):=by
 cases x with
 |none=>exact .none
 |some x=>exact .some _ _ (h x rfl)
theorem Fe{ps:Array (Nat×Operand)}(h:∀p∈ps,VR ρ (aZ aa p.2) (a.eval p.2)):PR ρ (parts aa ps) (ps.map fun(i,x)=>(i,a.eval x)).toList:=by
 unfold Rk.parts;rw[Array.toList_map]
 have:∀l:List (Nat×Operand),(∀p∈l,VR ρ (aZ aa p.2) (a.eval p.2))->PR ρ (l.map fun p=>(p.1,aZ aa p.2)) (l.map fun(i,x)=>(i,a.eval x)):=by
  intro l
  induction l with
  |nil=>exact fun _=> .nil
  |cons p l ih=>exact fun h=> .cons p.1 _ _ _ _ (h p (by simp)) (ih (fun q hq=>h q (by simp[hq])))
 exact this _ (fun p hp=>h p (Array.mem_toList_iff.1 hp))
theorem eG{o:Oper}{m:Sem Value}{v:AV}{v':Value}(he:execOp a.eval o=do pure (.value (<-m)))(hp:Pre ρ T s s w)(hm:m.run P w= .ok v' w)(hv:VR ρ v v'):∃ρ' w' v',Yld P a o w v' w'/\Post ρ T s w ρ' s w'/\VR ρ' v v':=
 ⟨ρ,w,v',.inl (by rw[he];simp[hm]),Post.same hp.good rfl rfl (Still.refl w),hv⟩
theorem dX{o:Oper}{m:Sem Value}{v:AV}(he:execOp a.eval o=do pure (.value (<-m)))(h:fS P m ρ T s w v s'):∃ρ' w' v',Yld P a o w v' w'/\Post ρ T s w ρ' s' w'/\VR ρ' v v':=by
 obtain⟨ρ',w',v',h1,h2,h3⟩:=h;exact⟨ρ',w',v',.inl (by rw[he];simp[h1]),h2,h3⟩
theorem xf{o:Oper}{m:Sem Unit}(he:execOp a.eval o=do m;pure .skip)(h:∃w',m.run P w= .ok () w'/\Post ρ T s w ρ s' w'):∃ρ' w' v',Yld P a o w v' w'/\Post ρ T s w ρ' s' w'/\VR ρ' ig v':=by
 obtain⟨w',h1,h2⟩:=h;exact⟨ρ,w',undef,.inr ⟨by rw[he];simp[h1],rfl⟩,h2,mV⟩
theorem Zb{o:Oper}{v:AV}(h:aop P aa o.op s=some (v,s'))(hp:Pre ρ T s s' w)(ha:Za ρ aa a o.op):∃ρ' w' v',Yld P a o w v' w'/\Post ρ T s w ρ' s' w'/\VR ρ' v v':=by
 unfold aop at h;split at h
 ·rename_i x ho
  cases h;exact⟨ρ,w,_,.inl (by unfold execOp;rw[ho];rfl),Post.same hp.good rfl rfl (Still.refl w),ha x (by rw[ho];simp[Op.operands])⟩
 ·rename_i x ho
  cases h;exact⟨ρ,w,_,.inl (by unfold execOp;rw[ho];rfl),Post.same hp.good rfl rfl (Still.refl w),ha x (by rw[ho];simp[Op.operands])⟩
 ·rename_i c x y ho
  split at h
  ·rename_i b hc
   cases h;have hcv:=ha c (by rw[ho];simp[Op.operands]);rw[hc] at hcv;generalize hcc:a.eval c=c' at hcv;cases hcv;refine⟨ρ,w,if b then a.eval x else a.eval y,.inl (by unfold execOp;rw[ho];simp[hcc,asBool]),Post.same hp.good rfl rfl (Still.refl w),?_⟩;cases b
   ·exact ha y (by rw[ho];simp[Op.operands])
   ·exact ha x (by rw[ho];simp[Op.operands])
  ·cases h
 ·rename_i t ho
  split at h
  ·rename_i z hz
   cases h;exact dX (by unfold execOp;rw[ho]) (Iz hz hp)
  ·cases h
 ·rename_i t x ho
  split at h
  ·rename_i c hc
   cases h;exact dX (by unfold execOp;rw[ho]) (RP hc hp (ha x (by rw[ho];simp[Op.operands])))
  ·cases h
 ·rename_i t ps ho
  obtain⟨h1,rfl⟩:=eM h;obtain⟨v',h2,h3⟩:=IA (P:=P) (ρ:=ρ) (w:=w) h1 (Fe (fun p hp=>ha p.2 (by rw[ho];simp[Op.operands];exact⟨p.1,hp⟩)));exact eG (by unfold execOp;rw[ho]) hp h2 h3
 ·rename_i t len ps ho
  exact dX (by unfold execOp;rw[ho]) (tM h hp (Fe (fun p hp=>ha p.2 (by rw[ho];simp[Op.operands];exact⟨p.1,hp⟩))))
 ·rename_i t x ho
  exact dX (by unfold execOp;rw[ho]) (M4 h hp (ha x (by rw[ho];simp[Op.operands])))
 ·rename_i t x y ho
  obtain⟨h1,rfl⟩:=gV h;exact xf (by unfold execOp;rw[ho]) (Iy h1 hp (ha x (by rw[ho];simp[Op.operands])) (ha y (by rw[ho];simp[Op.operands])))
 ·rename_i x ho
  have xY:=ha x (by rw[ho];simp[Op.operands]);split at h
  ·rename_i b off hx
   cases h;rw[hx] at xY;generalize hcc:a.eval x=x' at xY;cases xY with
   |ptr _ _ r hb=>exact⟨ρ,w,_,.inl (by unfold execOp;rw[ho];simp only[hcc];rfl),Post.same hp.good rfl rfl (Still.refl w),.ptr _ _ r hb⟩
  ·rename_i f k l hx
   cases h;rw[hx] at xY;generalize hcc:a.eval x=x' at xY;cases xY with
   |func _ _ _ k' l' h1 h2=>exact⟨ρ,w,_,.inl (by unfold execOp;rw[ho];simp only[hcc];rfl),Post.same hp.good rfl rfl (Still.refl w),.func _ _ _ k' l' h1 h2⟩
  ·rename_i t v0 hx
   cases h;rw[hx] at xY;generalize hcc:a.eval x=x' at xY;cases xY with
   |iface _ _ v1 h1=>exact⟨ρ,w,_,.inl (by unfold execOp;rw[ho];simp only[hcc];rfl),Post.same hp.good rfl rfl (Still.refl w),.iface _ _ v1 h1⟩
  ·cases h
 ·rename_i op t x y _ ho
  obtain⟨h1,rfl⟩:=eM h;obtain⟨v',h2,h3⟩:=YY (P:=P) (ρ:=ρ) (w:=w) h1 (ha x (by rw[ho];simp[Op.operands])) (ha y (by rw[ho];simp[Op.operands]));exact eG (by unfold execOp;rw[ho]) hp h2 h3
 ·rename_i op _ x ho
  obtain⟨h1,rfl⟩:=eM h;obtain⟨v',h2,h3⟩:=YZ (P:=P) (ρ:=ρ) (w:=w) h1 (ha x (by rw[ho];simp[Op.operands]));exact eG (by unfold execOp;rw[ho]) hp h2 h3
 ·rename_i src dst x ho
  split at h
  ·rename_i hs
   exact dX (by unfold execOp;rw[ho]) (Vu h (Option.isSome_iff_exists.1 hs) hp (ha x (by rw[ho];simp[Op.operands])))
  ·cases h
 ·rename_i t x ho
  split at h
  ·cases h
  ·rename_i d hd hu
   cases h;refine eG (m:=Instr.makeInterface t (a.eval x)) (v':= .iface t (a.eval x)) (by unfold execOp;rw[ho]) hp ?_ (.iface _ _ _ (ha x (by rw[ho];simp[Op.operands])));cases d<;>first|(simp[Instr.makeInterface,run_underlying hu];done)|exact absurd rfl (hd _)
  ·cases h
 ·rename_i f first cap ho
  cases h;exact⟨ρ,w,_,.inl (by unfold execOp;rw[ho];rfl),Post.same hp.good rfl rfl (Still.refl w),.func _ _ _ _ _ (uu (fun x hx=>ha x (by rw[ho];simp[Op.operands,hx]))) (uu (fun x hx=>ha x (by rw[ho];simp[Op.operands,hx])))⟩
 ·rename_i t ho
  cases h;have hf:ρ s.n=none:=hp.fresh s.n (n_) (Nat.lt_succ_self _);refine⟨_,_,.map (some w.heap.size),.inl (by unfold execOp;rw[ho];simp[Instr.makeMap]),Post.made (o:= .map #[] 0) (r:=⟨w.heap.size,0,0⟩) hp.good hp.wf hf hp.tn (Add.push w _) rfl ⟨_,#[],Env.bz _ _,(Add.push w _).here,MR.nil⟩,.map s.n _ (Env.bz _ _)⟩
 ·rename_i t l c ho
  exact dX (by unfold execOp;rw[ho]) (wU h hp (ha l (by rw[ho];simp[Op.operands])) (ha c (by rw[ho];simp[Op.operands])))
 ·rename_i t x lo hi mx ho
  split at h
  ·rename_i b off hx
   have xY:=ha x (by rw[ho];simp[Op.operands]);rw[hx] at xY;exact dX (by unfold execOp;rw[ho]) (xS h hp xY (rQ (fun x hx=>ha x (by rw[ho];simp[Op.operands,hx]))) (rQ (fun x hx=>ha x (by rw[ho];simp[Op.operands,hx]))) (rQ (fun x hx=>ha x (by rw[ho];simp[Op.operands,hx]))))
  ·obtain⟨h1,rfl⟩:=eM h
   obtain⟨v',h2,h3⟩:=IB (P:=P) (ρ:=ρ) (w:=w) h1 (ha x (by rw[ho];simp[Op.operands])) (rQ (fun x hx=>ha x (by rw[ho];simp[Op.operands,hx]))) (rQ (fun x hx=>ha x (by rw[ho];simp[Op.operands,hx]))) (rQ (fun x hx=>ha x (by rw[ho];simp[Op.operands,hx])));exact eG (by unfold execOp;rw[ho]) hp h2 h3
 ·rename_i t x f ho
  obtain⟨h1,rfl⟩:=eM h;obtain⟨v',h2,h3⟩:=wX (P:=P) (ρ:=ρ) (w:=w) h1 (ha x (by rw[ho];simp[Op.operands]));exact eG (by unfold execOp;rw[ho]) hp h2 h3
 ·rename_i t x f ho
  obtain⟨h1,rfl⟩:=eM h;obtain⟨v',h2,h3⟩:=IC (P:=P) (ρ:=ρ) (w:=w) h1 (ha x (by rw[ho];simp[Op.operands]));exact eG (by unfold execOp;rw[ho]) hp h2 h3
 ·rename_i t x i ho
  obtain⟨h1,rfl⟩:=eM h;obtain⟨v',h2,h3⟩:=wY (P:=P) (ρ:=ρ) (w:=w) h1 (ha x (by rw[ho];simp[Op.operands])) (ha i (by rw[ho];simp[Op.operands]));exact eG (by unfold execOp;rw[ho]) hp h2 h3
 ·rename_i t x i ho
  obtain⟨h1,rfl⟩:=eM h;obtain⟨v',h2,h3⟩:=ID (P:=P) (ρ:=ρ) (w:=w) h1 (ha x (by rw[ho];simp[Op.operands])) (ha i (by rw[ho];simp[Op.operands]));exact eG (by unfold execOp;rw[ho]) hp h2 h3
 ·rename_i t x i ok ho
  split at h
  ·rename_i b es hx
   exact dX (by unfold execOp;rw[ho]) (BV hx h hp (ha x (by rw[ho];simp[Op.operands])) (ha i (by rw[ho];simp[Op.operands])))
  exact dX (by unfold execOp;rw[ho]) (Fa h hp (ha x (by rw[ho];simp[Op.operands])) (ha i (by rw[ho];simp[Op.operands])))
 ·rename_i t m k x ho
  obtain⟨h1,rfl⟩:=gV h;exact xf (by unfold execOp;rw[ho]) (sK h1 hp (ha m (by rw[ho];simp[Op.operands])) (ha k (by rw[ho];simp[Op.operands])) (ha x (by rw[ho];simp[Op.operands])))
 ·rename_i t m k x ho
  obtain⟨h1,rfl⟩:=gV h;exact xf (by unfold execOp;rw[ho]) (sK h1 hp (ha m (by rw[ho];simp[Op.operands])) (ha k (by rw[ho];simp[Op.operands])) (ha x (by rw[ho];simp[Op.operands])))
 ·rename_i t x ho
  exact dX (by unfold execOp;rw[ho]) (II h hp (ha x (by rw[ho];simp[Op.operands])))
 ·rename_i x ho
  exact dX (by unfold execOp;rw[ho]) (Ng (ty:=o.type) h hp (ha x (by rw[ho];simp[Op.operands])))
 ·rename_i x ho
  exact dX (by unfold execOp;rw[ho]) (IJ (ty:=o.type) h hp (ha x (by rw[ho];simp[Op.operands])))
 ·rename_i x ho
  exact dX (by unfold execOp;rw[ho]) (IK h hp (ha x (by rw[ho];simp[Op.operands])))
 ·rename_i t i ho
  split at h
  ·rename_i vs hx
   obtain⟨h1,rfl⟩:=eM h;have xY:=ha t (by rw[ho];simp[Op.operands]);rw[hx] at xY;generalize hcc:a.eval t=x' at xY;cases xY with
   |tuple _ vs' Xc=>
   obtain⟨v',h2,h3⟩:=Xc.Ix h1;exact eG (m:=Instr.extract (.tuple vs') i) (by unfold execOp;rw[ho];simp only[hcc]) hp (by simp[Instr.extract,h2]) h3
  ·cases h
 ·rename_i b args argTypes ho
  have bo:=uu (ρ:=ρ) (aa:=aa) (a:=a) (xs:=args) (fun x hx=>ha x (by rw[ho];simp[Op.operands,Call.operands,hx]))
  have he:∃c:Array Bool,∀w1,(execOp a.eval o).run P w1=(builtin b argTypes o.type c (args.map a.eval)).run P w1:=⟨_,fun w1=>by
   unfold execOp;rw[ho];simp only[resolve,invoke,Sem.run_bind,Sem.run_pure,Result.andThen_ok];rfl⟩
  obtain⟨cc,he⟩:=he;generalize Tz:args.toList.map (aZ aa)=al at h bo;generalize hvl:args.map a.eval=vl at bo he
  have kv:∀(m:Sem Value),builtin b argTypes o.type cc vl=(do pure (.value (<-m)))->fS P m ρ T s w v s'->∃ρ' w' v',Yld P a o w v' w'/\Post ρ T s w ρ' s' w'/\VR ρ' v v':=fun m hb ⟨ρ',w',v',k1,k2,k3⟩=>by
   refine⟨ρ',w',v',.inl ?_,k2,k3⟩;rw[he,hb];simp[k1]
  have jbx:∀{x:AV},bO ρ [x] vl.toList->∃x',vl=#[x']/\VR ρ x x':=fun{x} hh=>by
   rcases vl with⟨l⟩
   cases hh with
   |cons _ x' _ _ hx ht=>cases ht;exact⟨x',rfl,hx⟩
  have VA:∀{x y:AV},bO ρ [x,y] vl.toList->∃x' y',vl=#[x',y']/\VR ρ x x'/\VR ρ y y':=fun{x y} hh=>by
   rcases vl with⟨l⟩
   cases hh with
   |cons _ x' _ _ hx ht=>cases ht with
    |cons _ y' _ _ hy ht=>cases ht;exact⟨x',y',rfl,hx,hy⟩
  have WY:∀{x:AV} {l:List AV},bO ρ (x::l) vl.toList->∃x' l',vl=⟨x'::l'⟩/\VR ρ x x'/\bO ρ l l':=fun{x l} hh=>by
   rcases vl with⟨l⟩
   cases hh with
   |cons _ x' _ l' hx ht=>exact⟨x',l',rfl,hx,ht⟩
  unfold qj at h;split at h
  ·split at h
   ·rename_i x
    obtain⟨x',rfl,hx⟩:=jbx bo;cases ht:argTypes[0]?with
    |none=>rw[ht] at h;simp[MI] at h
    |some t=>
     rw[ht] at h;exact kv (Builtin.len_ argTypes o.type #[x']) rfl (Vz ht h hp hx)
   ·cases h
  ·split at h
   ·rename_i t x y e ht hu
    obtain⟨x',y',rfl,hx,hy⟩:=VA bo;obtain⟨u,S8,nv⟩:=Option.bind_eq_some_iff.1 hu
    have Zc:Builtin.append_ argTypes o.type #[x',y']=Builtin.append_ #[t,u] o.type #[x',y']:=by
     unfold Builtin.append_;simp only[ht,S8,List.getElem?_toArray,List.getElem?_cons_zero,List.getElem?_cons_succ]
    exact kv (Builtin.append_ #[t,u] o.type #[x',y']) (by rw[<-Zc];rfl) (wV h (.inl ⟨_,nv⟩) hp hx hy)
   ·rename_i t x y ht hu
    obtain⟨x',y',rfl,hx,hy⟩:=VA bo;obtain⟨u,S8,nv⟩:=Option.bind_eq_some_iff.1 hu
    have Zc:Builtin.append_ argTypes o.type #[x',y']=Builtin.append_ #[t,u] o.type #[x',y']:=by
     unfold Builtin.append_;simp only[ht,S8,List.getElem?_toArray,List.getElem?_cons_zero,List.getElem?_cons_succ]
    exact kv (Builtin.append_ #[t,u] o.type #[x',y']) (by rw[<-Zc];rfl) (wV h (.inr nv) hp hx hy)
   ·cases h
  ·split at h
   ·rename_i x l
    split at h
    ·rename_i hf
     cases h;obtain⟨x',l',rfl,hx,hl⟩:=WY bo;obtain⟨v',h1,h2⟩:=xd (P:=P) (w:=w) hf hx hl;exact kv (Builtin.min_ argTypes o.type ⟨x'::l'⟩) rfl (fS.pure hp (by simpa[Builtin.min_] using h1) h2)
    ·cases h
   ·cases h
  ·split at h
   ·rename_i x l
    split at h
    ·rename_i hf
     cases h;obtain⟨x',l',rfl,hx,hl⟩:=WY bo;obtain⟨v',h1,h2⟩:=xe (P:=P) (w:=w) hf hx hl;exact kv (Builtin.max_ argTypes o.type ⟨x'::l'⟩) rfl (fS.pure hp (by simpa[Builtin.max_] using h1) h2)
    ·cases h
   ·cases h
  ·split at h
   ·rename_i hf
    cases h;rcases al with _|⟨x,_|⟨y,l⟩⟩
    ·simp[i7] at hf
    ·obtain⟨x',rfl,hx⟩:=jbx bo
     exact kv (Builtin.unsafeSliceData_ argTypes o.type #[x']) rfl (xV hf hp hx)
    ·unfold i7 at hf
     split at hf<;>rename_i he<;>first|(cases he;done)|cases hf
   ·cases h
  ·split at h
   ·rename_i t it yF
    have hat:argTypes=#[t,it]:=by rw[<-Array.toList_inj];exact yF
    rcases al with _|⟨x,_|⟨y,_|⟨z,l⟩⟩⟩
    ·simp[ju] at h
    ·unfold ju at h
     split at h<;>rename_i he<;>first|(cases he;done)|cases h
    ·obtain⟨x',y',rfl,hx,hy⟩:=VA bo
     refine kv (Builtin.unsafeString_ argTypes o.type #[x',y']) rfl ?_;rw[hat];exact IP h hp hx hy
    ·unfold ju at h
     split at h<;>rename_i he<;>first|(cases he;done)|cases h
   ·cases h
  ·split at h
   ·rename_i t m k ht
    obtain⟨m',k',rfl,hm,hk⟩:=VA bo;obtain⟨h1,rfl⟩:=gV h;exact kv (Builtin.delete_ argTypes o.type #[m',k']) rfl (Fb ht h1 hp hm hk)
   ·cases h
  ·cases h
 ·cases h
end
def FW(r:Option Nat):Fence:={Fence.wide with round:=r}
def Cc(ρ:Env):S0->Ending->Prop
 | .ret v,.returned v'=>VR ρ v v'
 | .xM v,.panicked ch=>∃v',ch=[{v:=v',recovered:=false}]/\VR ρ v v'
 |_,_=>False
def dN(P:Program)(C:Callee):Prop:=∀f args s res s',C f args s=some (res,s')->ki s->aF s s'/\∀(ρ:Env) (T:Nat->Nat->Prop) (w:World) (vs:Array Value),Pre ρ T s s' w->bO ρ args vs.toList->
 (∀w1,(callFunc f vs).run P w1= .ok (.enter f vs) w1)/\∀n,CallsIn Fence.wide n P f vs w (fun e w'=>∃ρ',Post ρ T s w ρ' s' w'/\Cc ρ' res e)
def fZ(P:Program)(Y:eJ):Prop:=∀b args s res s',Y b args s=some (res,s')->ki s->aF s s'/\∀(ρ:Env) (T:Nat->Nat->Prop) (w:World) (vs:Array Value),Pre ρ T s s' w->bO ρ args vs.toList->∀r,ρ b=some r->
 ∃f tmps assign body,(Instr.yield r.blk vs).run P w= .ok (.round r.blk f tmps assign body) w/\∀rr n,RoundIn (FW rr) n P r.blk f tmps assign body w (fun e w'=>∃ρ',Post ρ T s w ρ' s' w'/\Cc ρ' res e)
section
variable {P:Program} {ρ:Env} {T:Nat->Nat->Prop} {s s':St} {w w':World} {aa:bI} {a:Act} {C:Callee} {Y:eJ}
theorem Zd{r:Option Nat}{n:Nat}{o:Oper}{v:Value}{K:Act->World->Prop}{Q:Exit->Act->World->Prop}(hd:∀c,o.op≠.defer c)(hy:Yld P a o w v w')(hk:K (a.put o.dst v) w'):o.wpIn (FW r) n P a w K Q:=by
 refine⟨fun _ _=>trivial,?_⟩;rw[Oper.semAt_eq _ _ _ hd];rcases hy with hy|⟨hy,rfl⟩
 ·rw[hy];exact hk
 ·rw[hy];exact hk
theorem sL{o:Oper}{res:S0}(hC:dN P C)(hY:fZ P Y)(h:ij P C Y aa o s=some (res,s'))(bf:ki s):aF s s':=by
 unfold ij at h;split at h
 ·split at h
  ·exact(hC _ _ _ _ _ h bf).1
  ·exact(hY _ _ _ _ _ h bf).1
  ·cases h
 ·split at h
  ·cases h;exact aF.refl _
  ·cases h
 ·cases h
 ·split at h
  ·rename_i ho
   cases h;exact R8 bf ho
  ·cases h
theorem zH{o:Oper}{res:S0}(hC:dN P C)(hY:fZ P Y)(h:ij P C Y aa o s=some (res,s'))(hp:Pre ρ T s s' w)(ha:Za ρ aa a o.op){r:Option Nat}{n:Nat}{K:Act->World->Prop}{Q:Exit->Act->World->Prop}(hk:∀ρ' w',Post ρ T s w ρ' s' w'->match res with
   | .ret v=>∀v',VR ρ' v v'->K (a.put o.dst v') w'
   | .xM v=>∀v',VR ρ' v v'->Q (.panic [{v:=v',recovered:=false}]) a w'):o.wpIn (FW r) n P a w K Q:=by
 have bf:=hp.wf;unfold ij at h;split at h
 ·rename_i g args ats ho
  have bo:=uu (ρ:=ρ) (aa:=aa) (a:=a) (xs:=args) (fun x hx=>ha x (by rw[ho];simp[Op.operands,Call.operands,hx]));have hg:=ha g (by rw[ho];simp[Op.operands,Call.operands]);have xI:∀c,o.op≠.defer c:=fun c=>by rw[ho];simp
  split at h
  ·rename_i f first cap hf
   rw[hf] at hg;generalize Tw:a.eval g=g' at hg;cases hg with
   |func _ _ _ k' l' h1 h2=>
   have hall:bO ρ (first++args.toList.map (aZ aa)++cap) (k'++args.map a.eval++l').toList:=by
    simp only[Array.toList_append];exact(h1.append bo).append h2
   obtain⟨_,hc⟩:=hC _ _ _ _ _ h bf;obtain⟨he,iv⟩:=hc ρ T w _ hp hall
   have hrun:(execOp a.eval o).run P w= .ok (.enter f (k'++args.map a.eval++l')) w:=by
    unfold execOp;rw[ho];simp only[resolve,Tw,Deferred.ofValue,Sem.run_bind,Sem.run_pure,Result.andThen_ok,invoke];exact he w
   refine⟨fun _ _=>trivial,?_⟩;rw[Oper.semAt_eq _ _ _ xI,hrun,Oper.uponIn_enter];refine⟨fun hh=>by simp[FW,Fence.wide] at hh,?_⟩;have Ze:CallsIn (FW r) (n-1) P f (k'++args.map a.eval++l') w (fun e w'=>∃ρ',Post ρ T s w ρ' s' w'/\Cc ρ' res e):=iv (n-1);refine Ze.mono (fun e w2 ⟨ρ',aM,hres⟩=> ?_);have ye:=hk ρ' w2 aM;cases res with
   |ret v=>
    cases e with
    |returned v'=>exact ye v' hres
    |panicked ch=>exact hres.elim
    |outgrown=>exact hres.elim
   |xM v=>
    cases e with
    |returned v'=>exact hres.elim
    |panicked ch=>obtain⟨v',rfl,hv⟩:=hres;exact ye v' hv
    |outgrown=>exact hres.elim
  ·rename_i b hf
   rw[hf] at hg;generalize Tw:a.eval g=g' at hg;cases hg with
   |yield _ rb hb=>
   obtain⟨_,hc⟩:=hY _ _ _ _ _ h bf;obtain⟨f,tmps,assign,body,he,Zf⟩:=hc ρ T w _ hp bo rb hb
   have hrun:(execOp a.eval o).run P w= .ok (.round rb.blk f tmps assign body) w:=by
    unfold execOp;rw[ho];simp only[resolve,Tw,Deferred.ofValue,Sem.run_bind,Sem.run_pure,Result.andThen_ok,invoke];simpa using he
   refine⟨fun _ _=>trivial,?_⟩;rw[Oper.semAt_eq _ _ _ xI,hrun,Oper.uponIn_round];refine⟨fun hh=>by simp[FW,Fence.wide] at hh,?_⟩;refine(Zf r (n-1)).mono (fun e w2 ⟨ρ',aM,hres⟩=> ?_)
   have ye:=hk ρ' w2 aM;cases res with
   |ret v=>
    cases e with
    |returned v'=>exact ye v' hres
    |panicked ch=>exact hres.elim
    |outgrown=>exact hres.elim
   |xM v=>
    cases e with
    |returned v'=>exact hres.elim
    |panicked ch=>obtain⟨v',rfl,hv⟩:=hres;exact ye v' hv
    |outgrown=>exact hres.elim
  ·cases h
 ·rename_i x ho
  split at h
  ·rename_i t v0 hx
   cases h;have xY:=ha x (by rw[ho];simp[Op.operands]);rw[hx] at xY;have xI:∀c,o.op≠.defer c:=fun c=>by rw[ho];simp
   have ye:=hk ρ w (Post.same hp.good rfl rfl (Still.refl w)) _ xY;generalize Tw:a.eval x=x' at xY ye;cases xY with
   |iface _ _ v1 h1=>
   refine⟨fun _ _=>trivial,?_⟩
   have hrun:(execOp a.eval o).run P w= .halt (.panic (.iface t v1)) w:=by
    unfold execOp;rw[ho];simp only[Tw,Sem.run_bind];rfl
   rw[Oper.semAt_eq _ _ _ xI,hrun];exact ye
  ·cases h
 ·cases h
 ·rename_i hne1 hne2 jcA
  split at h
  ·rename_i v s1 ho
   cases h;obtain⟨ρ',w',v',h1,h2,h3⟩:=Zb ho hp ha;exact Zd (fun c hc=>jcA c hc) h1 (hk ρ' w' h2 v' h3)
  ·cases h
end
def OR.st:OR->Option St
 | .ok _ s=>some s
 | .xM _ _ s=>some s
 | .no=>none
def Zg(Q:Exit->Act->World->Prop)(ρ:Env)(T:Nat->Nat->Prop)(s:St)(w:World):OR->Prop
 | .ok aa s'=>∀ρ' a w',Post ρ T s w ρ' s' w'->dp ρ' aa a->Q .normal a w'
 | .xM aa v s'=>∀ρ' a w' v',Post ρ T s w ρ' s' w'->dp ρ' aa a->VR ρ' v v'->Q (.panic [{v:=v',recovered:=false}]) a w'
 | .no=>False
section
variable {P:Program} {ρ:Env} {T:Nat->Nat->Prop} {s s':St} {w w':World} {aa:bI} {a:Act} {C:Callee} {Y:eJ}
theorem zI{ops:List Oper}{gf:Array Oper}{o:Oper}{b:Bool}(h:eK ops o aa=some b)(hop:gf.toList=ops)(hg:∀j c d,o.guard=some (j,c)->(ops[j]?).bind (·.dst)=some d->VR ρ (aa.get d) (a.tmps.getD d undef)):Region.wanted o (yielded gf a.tmps)=b:=by
 unfold eK at h;unfold Region.wanted yielded;cases hgd:o.guard with
 |none=>rw[hgd] at h;cases h;rfl
 |some p=>
  obtain⟨j,c⟩:=p;rw[hgd] at h;have he:gf[j]? =ops[j]? :=by rw[<-hop,Array.getElem?_toList]
  simp only[he];simp only at h;cases hd:(ops[j]?).bind (·.dst) with
  |none=>rw[hd] at h;cases h;rfl
  |some d=>
   rw[hd] at h;simp only at h;have hv:=hg j c d hgd hd;simp only[Option.bind_some];split at h
   ·rename_i b' hb
    cases h;rw[hb] at hv
    have:a.tmps[d]? =some (.bool b'):=by
     cases hx:a.tmps[d]?with
     |none=>rw[Array.getD_eq_getD_getElem?,hx] at hv;cases hv
     |some x=>
      rw[Array.getD_eq_getD_getElem?,hx] at hv;simp only[Option.getD_some] at hv;cases hv;rfl
    rw[this];cases b'<;>cases c<;>rfl
   ·cases h
   ·rename_i h1 h2
    cases h;cases hx:a.tmps[d]?with
    |none=>rfl
    |some x=>
     rw[Array.getD_eq_getD_getElem?,hx] at hv;simp only[Option.getD_some] at hv;cases x<;>first|rfl|skip
     rename_i bb;generalize haa:aa.get d=y at*;cases hv with
     |top=>exact absurd rfl h2
     |bool=>exact absurd rfl (h1 bb)
theorem dp.ops(h:dp ρ aa a)(o:Op):Za ρ aa a o:=fun x _=>h.eval x
theorem Post.refl(hp:Pre ρ T s s w):Post ρ T s w ρ s w:=Post.same hp.good rfl rfl (Still.refl w)
theorem pk{R:Bool}{o:Oper}{x:OR}(hC:dN P C)(hY:fZ P Y)(bf:ki s)(h:wH P C Y R aa o s=x)(hs:x.st=some s'):aF s s':=by
 subst h;unfold wH at hs;split at hs
 ·split at hs
  ·split at hs
   ·cases hs
   ·cases hs;exact aF.refl _
  ·cases hs
 ·cases hv:ij P C Y aa o s with
  |none=>rw[hv] at hs;cases hs
  |some p=>
   obtain⟨res,s1⟩:=p;rw[hv] at hs;have:=sL hC hY hv bf;cases res<;>(cases hs;exact this)
theorem Ff{R:Bool}{o:Oper}{x:OR}(hC:dN P C)(hY:fZ P Y)(h:wH P C Y R aa o s=x)(hs:x.st=some s')(hp:Pre ρ T s s' w)(ha:dp ρ aa a){r:Option Nat}(hr:R=false->r=none){n:Nat}{Q:Exit->Act->World->Prop}{K:Act->World->Prop}(hk:Zg (fun e a w=>match e with| .normal=>K a w|e=>Q e a w) ρ T s w x):o.wpIn (FW r) n P a w K Q:=by
 subst h;unfold wH at hs hk;split at hs
 ·rename_i g args ats ho
  split at hs
  ·rename_i f first cap hf
   split at hs
   ·cases hs
   ·rename_i hR
    cases hs;have hrn:=hr (by simpa using hR);subst hrn;simp only[ho,hf] at hk;rw[if_neg hR] at hk;have hg:=ha.eval g;rw[hf] at hg;generalize Tw:a.eval g=g' at hg;cases hg with
    |func _ _ _ k' l' h1 h2=>
    have bo:=ha.args args
    have hd:Vy ρ (.fn f (first++args.toList.map (aZ aa)++cap)) {target:= .fn (.func f) l',args:=k'++args.map a.eval}:= .fn _ _ _ _ (by
     simp only[Array.toList_append];exact(h1.append bo).append h2)
    have hrun:(execOp a.eval o).run P w= .ok (.defer {target:= .fn (.func f) l',args:=k'++args.map a.eval}) w:=by
     unfold execOp;rw[ho];simp only[resolve,Tw,Deferred.ofValue,Sem.run_bind,Sem.run_pure,Result.andThen_ok]
    refine⟨fun _ _=>trivial,?_⟩;show o.uponIn (FW none) n P a K Q ((Oper.semAt none a.eval o).run P w);rw[Oper.semAt_none,hrun];have jcB:dp ρ {aa with defs:= .fn f (first++args.toList.map (aZ aa)++cap)::aa.defs} {a with defers:={target:= .fn (.func f) l',args:=k'++args.map a.eval}::a.defers}:=⟨ha.size,ha.get,.cons _ _ _ _ hd ha.defs⟩
    exact hk ρ _ w (Post.refl hp) (jcB.put o.dst mV)
  ·cases hs
 ·rename_i xI
  have hk:Zg (fun e a w=>match e with| .normal=>K a w|e=>Q e a w) ρ T s w (WK aa o.dst (ij P C Y aa o s)):=by
   split at hk
   ·rename_i g args ats ho
    exact absurd ho (xI g args ats)
   ·exact hk
  cases hv:ij P C Y aa o s with
  |none=>rw[hv] at hs;cases hs
  |some p=>
   obtain⟨res,s1⟩:=p;rw[hv] at hs hk;have hs1:s1=s':=by cases res<;>(cases hs;rfl)
   subst hs1;refine zH hC hY hv hp (ha.ops _) (fun ρ' w' aM=> ?_);cases res with
   |ret v=>exact fun v' hvv=>hk ρ' _ w' aM ((ha.mono aM.ext).put o.dst hvv)
   |xM v=>exact fun v' hvv=>hk ρ' a w' v' aM (ha.mono aM.ext) hvv
theorem jw{R:Bool}{ops:List Oper}(hC:dN P C)(hY:fZ P Y):∀(l:List Oper) {aa:bI} {s:St} {x:OR} {s':St},ki s->kN P C Y R ops l aa s=x->x.st=some s'->aF s s'
 |[],aa,s,x,s',bf,h,hs=>by
  unfold kN at h;subst h;cases hs;exact aF.refl _
 |o::l,aa,s,x,s',bf,h,hs=>by
  unfold kN at h;split at h
  ·cases h1:wH P C Y R aa o s with
   |no=>rw[h1] at h;subst h;cases hs
   |xM xZ v s1=>
    rw[h1] at h;subst h;exact pk hC hY bf h1 hs
   |ok xZ s1=>
    rw[h1] at h;have m1:=pk hC hY bf h1 rfl;exact m1.trans (jw hC hY l (m1.wf bf) h hs)
  ·exact jw hC hY l bf h hs
  ·subst h;cases hs
theorem Zg.after{Q:Exit->Act->World->Prop}{iI:Env}{s1:St}{w1:World}{x:OR}{s':St}(hs:x.st=some s')(m1:aF s s1)(m2:aF s1 s')(aM:Post ρ T s w iI s1 w1)(h:Zg Q ρ T s w x):Zg Q iI (Tn T s.n s1.n) s1 w1 x:=by
 cases x with
 |no=>cases hs
 |ok aa s2=>cases hs;exact fun ρ' a w' hp ha=>h ρ' a w' (aM.trans m1 m2 hp) ha
 |xM aa v s2=>cases hs;exact fun ρ' a w' v' hp ha hv=>h ρ' a w' v' (aM.trans m1 m2 hp) ha hv
theorem rR{R:Bool}{ops:List Oper}{gf:Array Oper}(hop:gf.toList=ops)(hC:dN P C)(hY:fZ P Y){r:Option Nat}(hr:R=false->r=none){n:Nat}{Q:Exit->Act->World->Prop}:∀(l:List Oper) {aa:bI} {s:St} {x:OR} {s':St} {ρ:Env} {T:Nat->Nat->Prop} {w:World} {a:Act},
 kN P C Y R ops l aa s=x->x.st=some s'->Pre ρ T s s' w->dp ρ aa a->Zg Q ρ T s w x->wpListIn (FW r) n P gf Q l a w
 |[],aa,s,x,s',ρ,T,w,a,h,hs,hp,ha,hk=>by
  unfold kN at h;subst h;cases hs;exact hk ρ a w (Post.refl hp) ha
 |o::l,aa,s,x,s',ρ,T,w,a,h,hs,hp,ha,hk=>by
  unfold kN at h;have mW:∀b,eK ops o aa=some b->Region.wanted o (yielded gf a.tmps)=b:=fun b hb=>zI hb hop (fun j c d _ _=>ha.get d);unfold wpListIn;split at h
  ·rename_i hw
   rw[if_pos (mW true hw)];cases h1:wH P C Y R aa o s with
   |no=>rw[h1] at h;subst h;cases hs
   |xM xZ v s1=>
    rw[h1] at h;subst h;exact Ff hC hY h1 hs hp ha hr (fun ρ' a' w' v' aM ha' hv=>hk ρ' a' w' v' aM ha' hv)
   |ok xZ s1=>
    rw[h1] at h;have m1:=pk hC hY hp.wf h1 rfl;have m2:=jw hC hY l (m1.wf hp.wf) h hs;refine Ff hC hY h1 rfl (hp.first m2) ha hr (fun ρ' a' w' aM ha'=> ?_);exact rR hop hC hY hr l h hs (hp.next m1 m2 aM) ha' (hk.after hs m1 m2 aM)
  ·rename_i hw
   rw[if_neg (by rw[mW false hw];simp)];exact⟨fun _ _=>trivial,rR hop hC hY hr l h hs hp (ha.put o.dst mV) hk⟩
  ·subst h;cases hs
end
section
variable {ρ ρ':Env} {T1 T2:Nat->Nat->Prop} {p q:St} {w w':World} {h h':Nat->Option bK}
theorem pn(hG:Good ρ T1 h w)(hp:Pre ρ T2 p q w)(aM:Post ρ T2 p w ρ' q w')(hm:aF p q)(Nf:p.log=[])(Lq:∀b i,T2 b i->T1 b i)(Fg:∀b,(∃i,T2 b i)->∃z,h b=some z/\live z)(Ae:∀b i,p.n<=b->b<q.n->¬T1 b i)(Ce:∀e∈q.log,e.blk<p.n->∀i,e.at e.blk i->T2 e.blk i)(ha:∀b,p.n<=b->b<q.n->h' b=q.heap.get b)(hb:∀b y,(∃i,T1 b i)->(∀i,¬T2 b i)->h' b=some y->live y->h b=some y)(hc:∀b y',(∃i,T2 b i)->h' b=some y'->live y'->∃y,q.heap.get b=some y/\live y/\(match y with
   | .cells t cs'=>∃cs,y'= .cells t cs/\cs.length=cs'.length/\(∀i,T2 b i->cs[i]? =cs'[i]?)/\((∀i,T2 b i)\/∃cs0,h b=some (.cells t cs0)/\∀i,¬T2 b i->cs[i]? =cs0[i]?)
   |y=>y'=y)):Good ρ' (Tn T1 p.n q.n) h' w':=by
 have hwr:∀e∈q.log,∀r,ρ e.blk=some r->∀i,e.at e.blk i->T2 e.blk i:=by
  intro e he r hr i hi;have h1:e.blk<q.n:=hm.lb hp.wf (by rw[Nf];simp) e he;by_cases h2:e.blk<p.n
  ·exact Ce e he h2 i hi
  ·rw[hp.fresh e.blk (by omega) h1] at hr;cases hr
 have lB:∀b r i,T2 b i->∀b' r' y',ρ b=some r->ρ b'=some r'->h b'=some y'->live y'->(∃i,T1 b' i)->r.blk=r'.blk->b=b':=by
  intro b r i hi b' r' y' hr nL hy' hl' kH e;obtain⟨z,hz,hzl⟩:=Fg b ⟨i,hi⟩;exact hG.inj b b' r r' z y' hz hy' hzl hl' ⟨i,Lq b i hi⟩ kH hr nL e
 have Zh:∀b r y,ρ b=some r->h b=some y->live y->(∃i,T1 b i)->(∀i,¬T2 b i)->w'.heap[r.blk]? =w.heap[r.blk]? :=by
  intro b r y hr hy hl hT hn;refine aM.fG.block r.blk (hG.old b r hr) (fun o hw=> ?_);obtain⟨e,he,r',h1,h2,h3⟩:=hw
  have hi:∃i,e.at e.blk i:=by
   cases e with
   |rd=>exact h3.elim
   |wr c j n=>exact⟨j,rfl,n_,by omega⟩
   |all c=>exact⟨0,rfl⟩
  obtain⟨i,hi⟩:=hi;have ht:=hwr e he r' h1 i hi;have:=lB e.blk r' i ht b r y h1 hr hy hl hT h2;exact hn i (this▸ht)
 have told:∀b,∀i,Tn T1 p.n q.n b i->T1 b i\/p.n<=b/\b<q.n:=fun b i h=>h;refine⟨fun b y hy hT=> ?_,fun b b' r r' y y' hy hy' hl hl' ht kH hr nL e=> ?_,aM.good.old⟩
 ·by_cases hl:live y
  ·by_cases zJ:p.n<=b/\b<q.n
   ·rw[ha b zJ.1 zJ.2] at hy
    exact(aM.good.sat b y hy ⟨0,.inr zJ⟩).mono (Env.le_refl _) (fun i _=> .inr zJ) (fun _ _=>rfl)
   ·have IL:∃i,T1 b i:=by
     obtain⟨i,hi⟩:=hT;rcases hi with hi|hi
     ·exact⟨i,hi⟩
     ·exact absurd hi zJ
    have hTT:∀i,Tn T1 p.n q.n b i->T1 b i:=fun i hi=>hi.elim id (fun hi=>absurd hi zJ);by_cases Cq:∃i,T2 b i
    ·obtain⟨y0,hq,mO,hrel⟩:=hc b y Cq hy hl
     have hbr:=aM.good.sat b y0 hq (by obtain⟨i,hi⟩:=Cq;exact⟨i,.inl hi⟩);cases y0 with
     |cells t cs'=>
      obtain⟨cs,rfl,hlen,dr,hout⟩:=hrel;obtain⟨r,c,fr,g1,g2,g3,g4,g5,g6⟩:=hbr;refine⟨r,c,fr,g1,g2,g3,by rw[hlen];exact g4,g5,fun i a hai hTi=> ?_⟩;by_cases D5:T2 b i
      ·rw[dr i D5] at hai
       exact g6 i a hai (.inl D5)
      ·rcases hout with hout|⟨cs0,hh0,hout⟩
       ·exact absurd (hout i) D5
       ·rw[hout i D5] at hai
        obtain⟨r0,c0,fr0,k1,k2,k3,k4,k5,k6⟩:=hG.sat b _ hh0 IL;have r6:r0=r:=i_ ((aM.ext b r0 k1).symm.trans g1);subst r6;obtain⟨v,hv,hR⟩:=k6 i a hai (hTT i hTi);have hbl:∀e∈q.log,∀r',ρ e.blk=some r'->r'.blk=r0.blk->∀j,e.at e.blk j->e.blk=b:=fun e he r' nL Nu j hj=>lB e.blk r' j (hwr e he r' nL j hj) b r0 _ nL k1 hh0 trivial IL Nu
        obtain⟨c1,m1,m2,m3⟩:=aM.fG.cells r0.blk c0 (t/2) fr0 k2 (fun⟨b1,r1,n1,n2,n3⟩=>by
         have:=hbl _ n1 r1 n2 n3 i rfl;have h7:=hwr _ n1 r1 n2 i rfl;simp only[LE.blk] at this h7;rw[this] at h7;exact D5 h7)
        rw[m1] at g2;simp only[Option.some.injEq,Obj.cells.injEq] at g2;obtain⟨g2,_,_⟩:=g2;subst g2;refine⟨v,?_,hR.mono aM.ext⟩
        rw[m3 _ (fun⟨e,he,r',n1,n2,n3⟩=>by
         cases e with
         |rd=>exact n3.elim
         |wr b1 j n=>
          have h8:(LE.wr b1 j n).at b1 j:=⟨rfl,n_,by omega⟩
          have Fx:=hbl _ he r' n1 n2 j h8;simp only[LE.blk] at Fx n1;subst Fx;have:r'=r0:=i_ (n1.symm.trans k1);subst this;exact D5 (hwr _ he r' n1 i ⟨rfl,by omega,by omega⟩)
         |all b1=>
          have Fx:=hbl _ he r' n1 n2 i rfl;simp only[LE.blk] at Fx n1;subst Fx;exact D5 (hwr _ he r' n1 i rfl))]
        exact hv
     |map es clock=>subst hrel;exact hbr
     |eE m a1 a2 a3=>subst hrel;exact hbr
     |i1 a1 a2=>subst hrel;exact hbr
     |pmap a1=>subst hrel;exact hbr
     |defd=>subst hrel;exact hbr
     |loop a1 a2 a3 a4 a5 a6 a7 a8=>subst hrel;exact hbr
     |dead=>exact mO.elim
    ·have hn2:∀i,¬T2 b i:=fun i hi=>Cq ⟨i,hi⟩
     have hy0:=hb b y IL hn2 hy hl;exact(hG.sat b y hy0 IL).mono aM.ext hTT (fun r hr=>Zh b r y hr hy0 hl IL hn2)
  ·cases y<;>first|exact trivial|exact absurd trivial hl
 ·
  have Zi:∀b y r,h' b=some y->live y->(∃i,Tn T1 p.n q.n b i)->¬(p.n<=b/\b<q.n)->ρ' b=some r->(∃i,T1 b i)/\(∃z,h b=some z/\live z)/\ρ b=some r:=by
   intro b y r hy hl ht Ja hr
   have IL:∃i,T1 b i:=by
    obtain⟨i,hi⟩:=ht;rcases hi with hi|hi
    ·exact⟨i,hi⟩
    ·exact absurd hi Ja
   have hz:∃z,h b=some z/\live z:=by
    by_cases Cq:∃i,T2 b i
    ·exact Fg b Cq
    ·exact⟨y,hb b y IL (fun i hi=>Cq ⟨i,hi⟩) hy hl,hl⟩
   obtain⟨z,hz1,hz2⟩:=hz;obtain⟨r0,o0,r6,_⟩:=(hG.sat b z hz1 IL).YT hz2;have:r0=r:=i_ ((aM.ext _ _ r6).symm.trans hr);subst this;exact⟨IL,⟨z,hz1,hz2⟩,r6⟩
  have mix:∀b y r b' y' r',h' b=some y->live y->(∃i,Tn T1 p.n q.n b i)->¬(p.n<=b/\b<q.n)->ρ' b=some r->h' b'=some y'->live y'->(p.n<=b'/\b'<q.n)->ρ' b'=some r'->r.blk=r'.blk->b=b':=by
   intro b y r b' y' r' hy hl ht Ja hr hy' hl' hm' nL e;obtain⟨IL,⟨z,hz1,hz2⟩,r6⟩:=Zi b y r hy hl ht Ja hr;have hno:ρ b'=none:=hp.fresh b' hm'.1 hm'.2;have hlt:=hG.old b r r6;obtain⟨b1,r1,n1,n2,n3⟩:=aM.fr b' r' hno nL (by omega);have Cq:=hwr _ n1 r1 n2 0 rfl;have Fx:=lB b1 r1 0 Cq b r z n2 r6 hz1 hz2 IL (by omega);subst Fx;obtain⟨y0,hq,mO,_⟩:=hc b1 y ⟨0,Cq⟩ hy hl;rw[ha b' hm'.1 hm'.2] at hy';exact aM.good.inj b1 b' r r' y0 y' hq hy' mO hl' ⟨0,.inl Cq⟩ ⟨0,.inr hm'⟩ hr nL e
  by_cases Vi:p.n<=b/\b<q.n
  ·by_cases IU:p.n<=b'/\b'<q.n
   ·rw[ha b Vi.1 Vi.2] at hy
    rw[ha b' IU.1 IU.2] at hy';exact aM.good.inj b b' r r' y y' hy hy' hl hl' ⟨0,.inr Vi⟩ ⟨0,.inr IU⟩ hr nL e
   ·exact(mix b' y' r' b y r hy' hl' kH IU nL hy hl Vi hr e.symm).symm
  ·by_cases IU:p.n<=b'/\b'<q.n
   ·exact mix b y r b' y' r' hy hl ht Vi hr hy' hl' IU nL e
   ·obtain⟨IL,⟨z,hz1,hz2⟩,r6⟩:=Zi b y r hy hl ht Vi hr
    obtain⟨jcC,⟨z',jcD,jcE⟩,jcF⟩:=Zi b' y' r' hy' hl' kH IU nL;exact hG.inj b b' r r' z z' hz1 jcD hz2 jcE IL jcC r6 jcF e
end
def R9(acc:List Nat)(o:Oper):Nat:=o.after.toList.foldl (fun s e=>if Region.binds .any e then s|||2^e.on|||acc.getD e.on 0 else s) 0
theorem zK(acc:List Nat):∀(l:List Edge) (s0 j:Nat),(l.foldl (fun s e=>if Region.binds .any e then s|||2^e.on|||acc.getD e.on 0 else s) s0).testBit j=true<->s0.testBit j=true\/∃e∈l,Region.binds .any e=true/\(e.on=j\/(acc.getD e.on 0).testBit j=true)
 |[],s0,j=>by simp
 |e::l,s0,j=>by
  rw[List.foldl_cons,zK acc l];by_cases hb:Region.binds .any e=true
  ·rw[if_pos hb]
   simp only[Nat.testBit_or,Bool.or_eq_true,Nat.testBit_two_pow,decide_eq_true_eq,List.mem_cons,exists_eq_or_imp,hb,true_and];constructor
   ·rintro(((h|h)|h)|h)
    ·exact .inl h
    ·exact .inr (.inl (.inl h))
    ·exact .inr (.inl (.inr h))
    ·exact .inr (.inr h)
   ·rintro(h|(h|h)|h)
    ·exact .inl (.inl (.inl h))
    ·exact .inl (.inl (.inr h))
    ·exact .inl (.inr h)
    ·exact .inr h
  ·rw[if_neg hb]
   simp[hb]
theorem mX(ops:List Oper)(o:Oper):cZ (ops++[o])=cZ ops++[R9 (cZ ops) o]:=by
 unfold cZ;rw[List.foldl_append];rfl
theorem kU(ops:List Oper):(cZ ops).length=ops.length:=by
 have:∀(n:Nat) (ops:List Oper),ops.length=n->(cZ ops).length=n:=by
  intro n
  induction n with
  |zero=>intro ops h;rw[List.eq_nil_of_length_eq_zero h];rfl
  |succ n ih=>
   intro ops h;have hne:ops≠[]:=by intro e;subst e;simp at h
   rw[<-List.dropLast_concat_getLast hne,mX];have:=ih ops.dropLast (by simp[h]);simp[this]
 exact this _ ops rfl
def W(ops:List Oper)(k:Nat):Nat:=(cZ ops).getD k 0
theorem zL(ops l:List Oper)(k:Nat)(hk:k<ops.length):(cZ (ops++l))[k]? =(cZ ops)[k]? :=by
 have:∀(n:Nat) (l:List Oper),l.length=n->(cZ (ops++l))[k]? =(cZ ops)[k]? :=by
  intro n
  induction n with
  |zero=>intro l h;rw[List.eq_nil_of_length_eq_zero h,List.append_nil]
  |succ n ih=>
   intro l h;have hne:l≠[]:=by intro e;subst e;simp at h
   rw[<-List.dropLast_concat_getLast hne,<-List.append_assoc,mX,List.getElem?_append_left (by rw[kU];simp;omega)];exact ih l.dropLast (by simp[h])
 exact this _ l rfl
theorem Sa{ops:List Oper}{k:Nat}{o:Oper}(ho:ops[k]? =some o){j:Nat}:(W ops k).testBit j=true<->∃e∈o.after,Region.binds .any e=true/\(e.on=j\/(((cZ ops).take k).getD e.on 0).testBit j=true):=by
 have hk:=(g_ ho).1;have Zj:ops=ops.take (k+1)++ops.drop (k+1):=(List.take_append_drop _ _).symm;have jby:ops.take (k+1)=ops.take k++[o]:=by rw[List.take_add_one,ho];rfl
 have dY:(cZ ops).take k=cZ (ops.take k):=by
  apply List.ext_getElem?;intro i;by_cases hi:i<k
  ·rw[List.getElem?_take_of_lt hi]
   conv=>lhs;rw[<-List.take_append_drop k ops]
   rw[zL _ _ i (by simp;omega)]
  ·rw[List.getElem?_eq_none (by simp;omega),List.getElem?_eq_none (by rw[kU];simp;omega)]
 have hW:W ops k=R9 (cZ (ops.take k)) o:=by
  unfold W;rw[List.getD_eq_getElem?_getD]
  conv=>lhs;rw[Zj]
  rw[zL _ _ k (by simp;omega),jby,mX,List.getElem?_append_right (by rw[kU];simp;omega),kU];have:k-(ops.take k).length=0:=by simp;omega
  rw[this];rfl
 rw[hW,dY];unfold R9;rw[zK];simp[Array.mem_toList_iff]
structure oy where
 p:St
 v:AV
 q:St
def oy.rc(x:oy):Rec:=⟨x.q.log,x.p.n,x.q.n⟩
def oy.wr(x:oy):Bool:=x.q.log.any (·.writes)
structure Text(P:Program)(C:Callee)(Y:eJ)(ops:List Oper)(ss:List oy)(A:Nat->bI)(S:Nat->St):Prop where
 len:ss.length=ops.length
 at_:∀k x o,ss[k]? =some x->ops[k]? =some o->x.p={S k with log:=[]}/\A (k+1)=(A k).put o.dst x.v/\S (k+1)={x.q with log:=x.q.log++(S k).log}/\
  ((eK ops o (A k)=some true/\ij P C Y (A k) o x.p=some (.ret x.v,x.q))\/(eK ops o (A k)=some false/\x.v=ig/\x.q=x.p))
 clash:∀j k x y,j<k->ss[j]? =some x->ss[k]? =some y->(W ops k).testBit j=false->x.rc.clash y.rc=false
theorem oz{w:Nat}{r:Rec}:∀{l:List Rec} {i:Nat},nA w r l i=false->∀j x,l[j]? =some x->w.testBit (i+j)=false->x.clash r=false
 |[],i,_,j,x,hx,_=>by simp at hx
 |y::l,i,h,0,x,hx,hw=>by
  simp at hx;subst hx;unfold nA at h;simp only[Bool.or_eq_false_iff,Bool.and_eq_false_iff,Bool.not_eq_false'] at h;rcases h.1 with h1|h1
  ·simp at hw;rw[hw] at h1;cases h1
  ·exact h1
 |y::l,i,h,j+1,x,hx,hw=>by
  unfold nA at h;simp only[Bool.or_eq_false_iff] at h;exact oz h.2 j x (by simpa using hx) (by rw[show i+1+j=i+(j+1) by omega];exact hw)
theorem Fh(r:Rec)(n m:Nat):r.clash ⟨[],n,m⟩=false:=by
 unfold Rec.clash;simp
section
variable {P:Program} {C:Callee} {Y:eJ}
def WZ(P:Program)(C:Callee)(Y:eJ)(ops l:List Oper)(ws:List Nat)(rs:List Rec)(aa:bI)(s:St)(lJ:bI)(s':St):Prop:=
    ∃(ss:List oy) (A:Nat->bI) (S:Nat->St),A 0=aa/\S 0=s/\A l.length=lJ/\S l.length=s'/\ss.length=l.length/\(∀(k:Nat) (x:oy) (o:Oper),ss[k]? =some x->l[k]? =some o->x.p={S k with log:=[]}/\A (k+1)=(A k).put o.dst x.v/\S (k+1)={x.q with log:=x.q.log++(S k).log}/\
     ((eK ops o (A k)=some true/\ij P C Y (A k) o x.p=some (.ret x.v,x.q))\/(eK ops o (A k)=some false/\x.v=ig/\x.q=x.p)))/\
     ∀(k:Nat) (y:oy),ss[k]? =some y->∃w:Nat,ws[k]? =some w/\(∀(j:Nat) (r:Rec),rs[j]? =some r->w.testBit j=false->r.clash y.rc=false)/\∀(j:Nat) (x:oy),j<k->ss[j]? =some x->w.testBit (rs.length+j)=false->x.rc.clash y.rc=false
theorem zM{ops:List Oper}:∀(l:List Oper) (ws:List Nat) (rs:List Rec) (aa:bI) (s:St) {lJ:bI} {s':St},cO P C Y ops l ws rs aa s= .ok lJ s'->WZ P C Y ops l ws rs aa s lJ s'
 |[],ws,rs,aa,s,lJ,s',h=>by
  unfold cO at h;cases h;exact⟨[],fun _=>aa,fun _=>s,rfl,rfl,rfl,rfl,rfl,fun k x o hx=>by simp at hx,fun k y hy=>by simp at hy⟩
 |o::l,[],rs,aa,s,lJ,s',h=>by unfold cO at h;cases h
 |o::l,w::ws,rs,aa,s,lJ,s',h=>by
  have build:∀(x:oy),x.p={s with log:=[]}->((eK ops o aa=some true/\ij P C Y aa o x.p=some (.ret x.v,x.q))\/(eK ops o aa=some false/\x.v=ig/\x.q=x.p))->(∀j r,rs[j]? =some r->w.testBit j=false->r.clash x.rc=false)->
   cO P C Y ops l ws (rs++[x.rc]) (aa.put o.dst x.v) {x.q with log:=x.q.log++s.log}= .ok lJ s'->WZ P C Y ops (o::l) (w::ws) rs aa s lJ s':=fun x hxp hx lH Sb=>by
   obtain⟨ss,A,S,h1,h2,h3,h4,h5,h6,h7⟩:=zM l ws _ _ _ Sb;refine⟨x::ss,fun k=>match k with|0=>aa|k+1=>A k,fun k=>match k with|0=>s|k+1=>S k,rfl,rfl,h3,h4,by simp[h5],fun k y oo hy ho=> ?_,fun k y hy=> ?_⟩
   ·cases k with
    |zero=>
     simp at hy ho;subst hy ho;exact⟨hxp,h1,h2,hx⟩
    |succ k=>exact h6 k y oo (by simpa using hy) (by simpa using ho)
   ·cases k with
    |zero=>
     simp at hy;subst hy;exact⟨w,rfl,lH,fun j x hj=>by omega⟩
    |succ k=>
     obtain⟨w',g1,g2,g3⟩:=h7 k y (by simpa using hy);refine⟨w',by simpa using g1,fun j r hr hb=>g2 j r (by rw[List.getElem?_append_left (g_ hr).1];exact hr) hb,fun j z hj hz hb=> ?_⟩;cases j with
     |zero=>
      simp at hz;subst hz;exact g2 rs.length x.rc (by simp) (by simpa using hb)
     |succ j=>exact g3 j z (by omega) (by simpa using hz) (by rw[List.length_append,List.length_singleton,show rs.length+1+j=rs.length+(j+1) by omega];exact hb)
  unfold cO at h;split at h
  ·rename_i hw
   split at h
   ·rename_i v s1 hv
    split at h
    ·cases h
    ·rename_i lH
     have lH:nA w ⟨s1.log,s.n,s1.n⟩ rs 0=false:=by simpa using lH
     exact build ⟨{s with log:=[]},v,s1⟩ rfl (.inl ⟨hw,hv⟩) (fun j r hr hb=>oz lH j r hr (by simpa using hb)) h
   ·cases h
  ·rename_i hw
   exact build ⟨{s with log:=[]},ig,{s with log:=[]}⟩ rfl (.inr ⟨hw,rfl,rfl⟩) (fun j r hr hb=>Fh _ _ _) (by simpa[oy.rc] using h)
  ·cases h
theorem zN{ops:List Oper}{aa lJ:bI}{s s':St}(h:cO P C Y ops ops (cZ ops) [] aa s= .ok lJ s'):∃ss A S,Text P C Y ops ss A S/\A 0=aa/\S 0=s/\A ops.length=lJ/\S ops.length=s':=by
 obtain⟨ss,A,S,h1,h2,h3,h4,h5,h6,h7⟩:=zM ops _ _ _ _ h;refine⟨ss,A,S,⟨h5,h6,fun j k x y hj hx hy hb=> ?_⟩,h1,h2,h3,h4⟩;obtain⟨w,g1,g2,g3⟩:=h7 k y hy;refine g3 j x hj hx ?_;unfold W at hb;rw[List.getD_eq_getElem?_getD,g1] at hb;simpa using hb
end
theorem VC{e:LE}{b i:Nat}(h:e.at b i):(LE.all b).hits e=true/\e.hits (LE.all b)=true:=by
 cases e with
 |rd c j n=>obtain⟨rfl,_⟩:=h;exact⟨by simp[LE.hits,LE.blk],by simp[LE.hits,LE.blk]⟩
 |wr c j n=>obtain⟨rfl,_⟩:=h;exact⟨by simp[LE.hits,LE.blk],by simp[LE.hits,LE.blk]⟩
 |all c=>cases h;exact⟨by simp[LE.hits,LE.blk],by simp[LE.hits,LE.blk]⟩
theorem Zk{e f:LE}{b i:Nat}(h:e.at b i)(hf:f.wrote b i):f.hits e=true/\e.hits f=true:=by
 cases f with
 |rd c j n=>exact hf.elim
 |all c=>exact hf.elim
 |wr c j n=>
  obtain⟨rfl,h1,h2⟩:=hf;cases e with
  |rd d k m=>obtain⟨rfl,h3,h4⟩:=h;exact⟨by simp[LE.hits];omega,by simp[LE.hits];omega⟩
  |wr d k m=>obtain⟨rfl,h3,h4⟩:=h;exact⟨by simp[LE.hits];omega,by simp[LE.hits];omega⟩
  |all d=>cases h;exact⟨by simp[LE.hits,LE.blk],by simp[LE.hits,LE.blk]⟩
theorem gh{x y:oy}(h:x.rc.clash y.rc=false):(∀e∈x.q.log,∀f∈y.q.log,e.hits f=false)/\(∀f∈y.q.log,¬(x.p.n<=f.blk/\f.blk<x.q.n))/\¬(x.wr=true/\y.wr=true):=by
 unfold Rec.clash at h;simp only[Bool.or_eq_false_iff] at h;obtain⟨⟨h1,h2⟩,h3⟩:=h;refine⟨fun e he f hf=> ?_,fun f hf hh=> ?_,fun⟨h4,h5⟩=> ?_⟩
 ·have h4:(y.rc.log.any fun f=>e.hits f)=false:=by simpa using List.any_eq_false.1 h1 e he
  simpa using List.any_eq_false.1 h4 f hf
 ·have:=List.any_eq_false.1 h2 f hf
  unfold LE.made at this;apply this;simp only[Bool.and_eq_true,decide_eq_true_eq];exact hh
 ·have:(x.rc.log.any (·.writes)&&y.rc.log.any (·.writes))=true:=by
   simp only[Bool.and_eq_true];exact⟨h4,h5⟩
  rw[this] at h3;cases h3
theorem quiet_of{x:oy}(h:x.wr=false){b i:Nat}:LE.all b∉x.q.log/\∀e∈x.q.log,¬e.wrote b i:=by
 have:=List.any_eq_false.1 h;refine⟨fun hm=>this _ hm rfl,fun e he hw=> ?_⟩;cases e with
 |wr c j n=>exact this _ he rfl
 |rd=>exact hw.elim
 |all=>exact hw.elim
def zO(Tb:Nat->Prop):bK->bK->Prop
 | .cells t cs,y=>∃cs',y= .cells t cs'/\cs'.length=cs.length/\∀i,Tb i->cs'[i]? =cs[i]?
 |x,y=>y=x
theorem zO.refl(Tb:Nat->Prop)(x:bK):zO Tb x x:=by
 cases x<;>first|rfl|exact⟨_,rfl,rfl,fun _ _=>rfl⟩
theorem zO.trans{Tb:Nat->Prop}{x y z:bK}(h:zO Tb x y)(k:zO Tb y z):zO Tb x z:=by
 cases x with
 |cells t cs=>
  obtain⟨cs',rfl,h2,h3⟩:=h;obtain⟨cs2,rfl,k2,k3⟩:=k;exact⟨cs2,rfl,k2.trans h2,fun i hi=>(k3 i hi).trans (h3 i hi)⟩
 |_=>cases h;exact k
theorem zO.symm{Tb:Nat->Prop}{x y:bK}(h:zO Tb x y):zO Tb y x:=by
 cases x with
 |cells t cs=>
  obtain⟨cs',rfl,h2,h3⟩:=h;exact⟨cs,rfl,h2.symm,fun i hi=>(h3 i hi).symm⟩
 |_=>cases h;exact zO.refl _ _
theorem zO.live{Tb:Nat->Prop}{x y:bK}(h:zO Tb x y)(hl:live x):live y:=by
 cases x with
 |cells t cs=>obtain⟨cs',rfl,_⟩:=h;trivial
 |_=>cases h;exact hl
theorem zO.eq{x y:bK}(h:zO (fun _=>True) x y):y=x:=by
 cases x with
 |cells t cs=>
  obtain⟨cs',rfl,h2,h3⟩:=h;congr 1;exact List.ext_getElem? (fun i=>h3 i trivial)
 |_=>exact h
theorem BR.agree{ρ:Env}{Tb T:Nat->Prop}{b:Nat}{w:World}{x y:bK}(h:BR ρ T b w x)(ha:zO Tb x y)(hT:∀i,Tb i->T i):BR ρ Tb b w y:=by
 cases x with
 |cells t cs=>
  obtain⟨cs',rfl,h2,h3⟩:=ha;obtain⟨r,c,fr,g1,g2,g3,g4,g5,g6⟩:=h;exact⟨r,c,fr,g1,g2,g3,by rw[h2];exact g4,g5,fun i a hi ht=>g6 i a (by rw[<-h3 i ht];exact hi) (hT i ht)⟩
 |map _ _=>cases ha;exact h
 |eE _ _ _ _=>cases ha;exact h
 |i1 _ _=>cases ha;exact h
 |pmap _=>cases ha;exact h
 |defd=>cases ha;exact h
 |loop _ _ _ _ _ _ _ _=>cases ha;exact h
 |dead=>cases ha;exact h
theorem fq.ag{log:List LE}{b:Nat}{x:bK}{y:Option bK}{Tb:Nat->Prop}(h:fq log b x y)(hn:∀i,Tb i->∀e∈log,¬e.wrote b i):∃z,y=Option.some z/\zO Tb x z:=by
 cases x with
 |cells t cs=>obtain⟨cs',rfl,h2,h3⟩:=h;exact⟨_,rfl,cs',rfl,h2,fun i hi=>h3 i (hn i hi)⟩
 |_=>exact⟨_,h,rfl⟩
section
variable {P:Program} {C:Callee} {Y:eJ} (hC:dN P C) (hY:fZ P Y) {ops:List Oper} {ss:List oy} {A:Nat->bI} {S:Nat->St} (X:Text P C Y ops ss A S) (hw0:ki (S 0))
include hC hY X hw0
theorem mY{k:Nat}(hk:k<ops.length):∃x o,ss[k]? =some x/\ops[k]? =some o:=by
 have _all:=(⟨hC,hY,hw0⟩:_/\_/\_)
 exact⟨_,_,e_ (by rw[X.len];exact hk),e_ hk⟩
theorem eN{k:Nat}{x:oy}(hx:ss[k]? =some x)(bf:ki (S k)):aF x.p x.q/\x.p.heap=(S k).heap/\x.p.n=(S k).n/\x.p.log=[]/\(S (k+1)).heap=x.q.heap/\(S (k+1)).n=x.q.n/\(S (k+1)).log=x.q.log++(S k).log:=by
 have _all:=hw0;have hk:k<ops.length:=by have:=(g_ hx).1;rw[X.len] at this;exact this
 obtain⟨h1,h2,h3,h4⟩:=X.at_ k x _ hx (e_ hk);refine⟨?_,by rw[h1],by rw[h1],by rw[h1],by rw[h3],by rw[h3],by rw[h3]⟩;rcases h4 with⟨_,h4⟩|⟨_,_,h4⟩
 ·exact sL hC hY h4 (by rw[h1];exact bf)
 ·rw[h4];exact aF.refl _
theorem j7:∀k,k<=ops.length->ki (S k)
 |0,_=>hw0
 |k+1,hk=>by
  have ih:=j7 k (by omega);obtain⟨x,o,hx,_⟩:=mY hC hY X hw0 (show k<ops.length by omega);obtain⟨m,h1,h2,h3,h4,h5,h6⟩:=eN hC hY X hw0 hx ih;have:=m.wf (by intro b hb;rw[h1];exact ih b (by omega));intro b hb;rw[h4];exact this b (by omega)
theorem kV:∀j i,i<=j->j<=ops.length->(S i).n<=(S j).n
 |0,i,hi,_=>by have:i=0:=by omega
               subst this;exact n_
 |j+1,i,hi,hj=>by
  by_cases h:i=j+1
  ·subst h;exact n_
  ·have ih:=kV j i (by omega) (by omega)
   obtain⟨x,o,hx,_⟩:=mY hC hY X hw0 (show j<ops.length by omega);obtain⟨m,h1,h2,h3,h4,h5,h6⟩:=eN hC hY X hw0 hx (j7 hC hY X hw0 j (by omega));have:=m.n;omega
theorem Sd:∀j i,i<=j->j<=ops.length->∀e∈(S i).log,e∈(S j).log
 |0,i,hi,_=>by have:i=0:=by omega
               subst this;exact fun _ h=>h
 |j+1,i,hi,hj=>by
  by_cases h:i=j+1
  ·subst h;exact fun _ h=>h
  ·have ih:=Sd j i (by omega) (by omega)
   obtain⟨x,o,hx,_⟩:=mY hC hY X hw0 (show j<ops.length by omega);obtain⟨m,h1,h2,h3,h4,h5,h6⟩:=eN hC hY X hw0 hx (j7 hC hY X hw0 j (by omega));intro e he;rw[h6];exact List.mem_append_right _ (ih e he)
theorem Sg{k:Nat}{x:oy}(hx:ss[k]? =some x):∀e∈x.q.log,e∈(S ops.length).log:=by
 have hk:k<ops.length:=by have:=(g_ hx).1;rw[X.len] at this;exact this
 obtain⟨m,h1,h2,h3,h4,h5,h6⟩:=eN hC hY X hw0 hx (j7 hC hY X hw0 k (by omega));intro e he;exact Sd hC hY X hw0 ops.length (k+1) (by omega) (n_) e (by rw[h6];exact List.mem_append_left _ he)
theorem uv{b:Nat}:∀(j i:Nat),i<=j->j<=ops.length->(S i).n<=b->b<(S j).n->∃k,i<=k/\k<j/\(S k).n<=b/\b<(S (k+1)).n
 |0,i,hi,_,h1,h2=>by
  have _all:=(⟨hC,hY,X,hw0⟩:_/\_/\_/\_)
  have:i=0:=by omega
  subst this;omega
 |j+1,i,hi,hj,h1,h2=>by
  by_cases h:b<(S j).n
  ·by_cases GL:i=j+1
   ·subst GL;omega
   ·obtain⟨k,g1,g2,g3⟩:=uv j i (by omega) (by omega) h1 h
    exact⟨k,g1,by omega,g3⟩
  ·by_cases GL:i=j+1
   ·subst GL;omega
   ·exact⟨j,by omega,by omega,by omega,h2⟩
theorem IV{b k j:Nat}(hk:k<ops.length)(hj:j<ops.length)(h1:(S k).n<=b)(h2:b<(S (k+1)).n)(h3:(S j).n<=b)(h4:b<(S (j+1)).n):k=j:=by
 rcases Nat.lt_trichotomy k j with h|h|h
 ·have:=kV hC hY X hw0 j (k+1) (by omega) (by omega);omega
 ·exact h
 ·have:=kV hC hY X hw0 k (j+1) (by omega) (by omega);omega
theorem nI{b:Nat}:∀(j i:Nat),i<=j->j<=ops.length->b<(S i).n->∀y,(S j).heap.get b=some y->live y->∃z,(S i).heap.get b=some z/\live z
 |0,i,hi,_,hb,y,hy,hl=>by
  have:i=0:=by omega
  subst this;exact⟨y,hy,hl⟩
 |j+1,i,hi,hj,hb,y,hy,hl=>by
  by_cases h:i=j+1
  ·subst h;exact⟨y,hy,hl⟩
  ·obtain⟨x,o,hx,_⟩:=mY hC hY X hw0 (show j<ops.length by omega)
   have bf:=j7 hC hY X hw0 j (by omega);obtain⟨m,h1,h2,h3,h4,h5,h6⟩:=eN hC hY X hw0 hx bf;have hn:=kV hC hY X hw0 j i (by omega) (by omega);obtain⟨z,hz,hzl⟩:=m.lv (by intro b hb;rw[h1];exact bf b (by omega)) b y (by omega) (by rw[<-h4];exact hy) hl;rw[h1] at hz;exact nI j i (by omega) (by omega) hb z hz hzl
theorem gG{b:Nat}{Tb:Nat->Prop}:∀(j i:Nat),i<=j->j<=ops.length->(∀l x,i<=l->l<j->ss[l]? =some x->LE.all b∉x.q.log/\∀i,Tb i->∀e∈x.q.log,¬e.wrote b i)->∀z,(S i).heap.get b=some z->∃y,(S j).heap.get b=some y/\zO Tb z y
 |0,i,hi,_,hq,z,hz=>by
  have:i=0:=by omega
  subst this;exact⟨z,hz,zO.refl _ _⟩
 |j+1,i,hi,hj,hq,z,hz=>by
  by_cases h:i=j+1
  ·subst h;exact⟨z,hz,zO.refl _ _⟩
  ·obtain⟨y,hy,zP⟩:=gG j i (by omega) (by omega) (fun l x h1 h2 hx=>hq l x h1 (by omega) hx) z hz
   obtain⟨x,o,hx,_⟩:=mY hC hY X hw0 (show j<ops.length by omega);have bf:=j7 hC hY X hw0 j (by omega);obtain⟨m,h1,h2,h3,h4,h5,h6⟩:=eN hC hY X hw0 hx bf;obtain⟨q1,q2⟩:=hq j x (by omega) (by omega) hx;have hk:=m.keep (by intro b hb;rw[h1];exact bf b (by omega)) b y (by rw[h1];exact hy) q1;obtain⟨y',hy',jcG⟩:=fq.ag hk q2;exact⟨y',by rw[h4];exact hy',zP.trans jcG⟩
end
end Go.Proofs.YtpohlhkgbmdieaaGreatDoor.Rk
