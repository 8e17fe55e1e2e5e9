/- Part 6 of the proof. -/
import Derived.Test.YtpohlhkgbmdieaaGreatDoorW5
import Derived.Lib.UnsafeStr
set_option linter.unusedVariables false
set_option maxRecDepth 1000000
set_option maxHeartbeats 16000000
namespace Go.Proofs.YtpohlhkgbmdieaaGreatDoor.Rk
open Go
def MR(ρ:Env)(es:List ME)(l:List MapEntry):Prop:=bO ρ (es.map (·.k)) (l.map (·.key))/\bO ρ (es.map (·.v)) (l.map (·.val))/\es.map (·.born)=l.map (·.born)
theorem MR.nil{ρ:Env}:MR ρ [] []:=⟨.nil,.nil,rfl⟩
theorem MR.cons{ρ:Env}{e:ME}{e':MapEntry}{es:List ME}{l:List MapEntry}(h1:VR ρ e.k e'.key)(h2:VR ρ e.v e'.val)(h3:e.born=e'.born)(h:MR ρ es l):MR ρ (e::es) (e'::l):=
 ⟨.cons _ _ _ _ h1 h.1,.cons _ _ _ _ h2 h.2.1,by simp[h3,h.2.2]⟩
theorem MR.inv{ρ:Env}{e:ME}{es:List ME}{l:List MapEntry}(h:MR ρ (e::es) l):∃e' l',l=e'::l'/\VR ρ e.k e'.key/\VR ρ e.v e'.val/\e.born=e'.born/\MR ρ es l':=by
 obtain⟨h1,h2,h3⟩:=h;cases l with
 |nil=>cases h1
 |cons e' l'=>
  simp only[List.map_cons] at h1 h2 h3;cases h1 with
  |cons _ _ _ _ a b=>cases h2 with
   |cons _ _ _ _ c d=>
    simp only[List.cons.injEq] at h3;exact⟨e',l',rfl,a,c,h3.1,b,d,h3.2⟩
theorem MR.kT{ρ:Env}{l:List MapEntry}(h:MR ρ [] l):l=[]:=by
 cases l with
 |nil=>rfl
 |cons e l=>cases h.1
theorem MR.len{ρ:Env}{es:List ME}{l:List MapEntry}(h:MR ρ es l):l.length=es.length:=by
 have:=h.1.length;simpa using this
theorem MR.filter{ρ:Env}(p:Nat->Bool):∀{es:List ME} {l:List MapEntry},MR ρ es l->MR ρ (es.filter fun e=>p e.born) (l.filter fun e=>p e.born)
 |[],l,h=>by rw[h.kT];exact .nil
 |e::es,l,h=>by
  obtain⟨e',l',rfl,h1,h2,h3,h4⟩:=h.inv;have ih:=MR.filter p h4;rw[List.filter_cons,List.filter_cons,h3];cases p e'.born
  ·simpa using ih
  ·simpa using ih.cons h1 h2 h3
theorem MR.any{ρ:Env}(p:Nat->Bool){es:List ME}{l:List MapEntry}(h:MR ρ es l):es.any (fun e=>p e.born)=l.any (fun e=>p e.born):=by
 have e1:es.any (fun e=>p e.born)=(es.map (·.born)).any p:=by rw[List.any_map];rfl
 have e2:l.any (fun e=>p e.born)=(l.map (·.born)).any p:=by rw[List.any_map];rfl
 rw[e1,e2,h.2.2]
theorem MR.append{ρ:Env}:∀{es:List ME} {l:List MapEntry} {e:ME} {e':MapEntry},MR ρ es l->VR ρ e.k e'.key->VR ρ e.v e'.val->e.born=e'.born->MR ρ (es++[e]) (l++[e'])
 |[],l,e,e',h,h1,h2,h3=>by rw[h.kT];exact .cons h1 h2 h3 .nil
 |x::es,l,e,e',h,h1,h2,h3=>by
  obtain⟨x',l',rfl,g1,g2,g3,g4⟩:=h.inv;exact .cons g1 g2 g3 (MR.append g4 h1 h2 h3)
theorem MR.modify{ρ:Env}{x:AV}{x' k':Value}(hx:VR ρ x x'):∀{es:List ME} {l:List MapEntry} (i:Nat),MR ρ es l->(∀e',l[i]? =some e'->e'.key=k')->MR ρ (es.modify i fun e=>{e with v:=x}) (l.modify i fun e=>{e with key:=k',val:=x'})
 |[],l,i,h,_=>by rw[h.kT];simpa using MR.nil
 |e::es,l,0,h,hk=>by
  obtain⟨e',l',rfl,g1,g2,g3,g4⟩:=h.inv;have:=hk e' rfl;simp only[List.modify_zero_cons];exact .cons (by rw[<-this];exact g1) hx g3 g4
 |e::es,l,i+1,h,hk=>by
  obtain⟨e',l',rfl,g1,g2,g3,g4⟩:=h.inv;simp only[List.modify_succ_cons];exact .cons g1 g2 g3 (MR.modify hx i g4 (fun y hy=>hk y (by simpa using hy)))
section
variable {P:Program} {ρ:Env} {T:Nat->Nat->Prop} {s s':St} {w w':World}
theorem Y8(l k:List Nat)(hl:∀x∈l,x<256)(hk:∀x∈k,x<256):((⟨(l.map UInt8.ofNat).toArray⟩:ByteArray)==⟨(k.map UInt8.ofNat).toArray⟩)=decide (l=k):=by
 show((l.map UInt8.ofNat).toArray==(k.map UInt8.ofNat).toArray)=decide (l=k)
 rw[Bool.eq_iff_iff];simp[ov hl hk]
theorem IE{t e:TypeId}{x y:Value}{xs ys:Array Value}{n:Nat}{b:Bool}(hu:P.underlying t=some (.array 1 e))(hs:lF P e=some 1)(hx:(part e xs 0).run P w= .ok x w)(hy:(part e ys 0).run P w= .ok y w)(h:(Op.equalIn n e x y).run P w= .ok b w):
 (Op.equalIn (n+1) t (.agg xs) (.agg ys)).run P w= .ok b w:=by
 conv=>lhs;unfold Op.equalIn
 simp only[Sem.run_bind,run_underlying hu,Result.andThen_ok,bW hs];simp only[Std.Legacy.Range.forIn_eq_forIn_range',Std.Legacy.Range.size,Nat.sub_zero,Nat.add_one_sub_one,Nat.div_one];simp only[List.range'_succ,List.range'_zero,List.forIn_cons,List.forIn_nil,Nat.zero_mul,Sem.run_bind,hx,hy,h,Result.andThen_ok];cases b<;>simp
theorem BS{d:TypeDesc}{a:List AV}(h:i6 d (.agg a)=true):False:=by cases d<;>cases h
theorem rP{d:TypeDesc}{k:AV}{k':Value}(hk:i6 d k=true)(lu:VR ρ k k'):∀n,Instr.sameBits n k' k'=true:=by
 intro n;cases lu<;>first|(cases d<;>cases hk;done)|skip
 ·cases n<;>simp[Instr.sameBits]
 ·cases n<;>simp[Instr.sameBits]
 ·rename_i lk hlk
  have:=Y8 lk lk hlk hlk;cases n<;>simp[Instr.sameBits,this]
theorem wZ(n:Nat):∀{fs:List Field} {cs:List AV} {i:Nat} {cs':List Value},iC P fs cs i=true->bO ρ cs cs'->((cs'.zip cs').all fun(x,y)=>Instr.sameBits n x y)=true
 |[],[],i,cs',hk,hx=>by cases hx;rfl
 |[],_::_,i,cs',hk,hx=>by cases hk
 |_::_,[],i,cs',hk,hx=>by cases hk
 |f::fs,c::cs,i,cs',hk,hx=>by
  cases hx with
  |cons _ v _ vs g1 g2=>
   simp only[iC,Bool.and_eq_true,bne_iff_ne,ne_eq,decide_eq_true_eq] at hk;obtain⟨⟨⟨k1,k2⟩,k3⟩,k4⟩:=hk;cases hu:P.underlying f.type with
   |none=>rw[hu] at k3;cases k3
   |some d=>
    rw[hu] at k3;simp only[List.zip_cons_cons,List.all_cons,Bool.and_eq_true];exact⟨rP k3 g1 n,wZ n k4 g2⟩
theorem RV{kt:TypeId}{d:TypeDesc}{k:AV}{k':Value}(hk:iM P kt d k=true)(lu:VR ρ k k'):Instr.sameBits 10000 k' k'=true:=by
 unfold iM at hk;split at hk
 ·simp only[Bool.and_eq_true,Bool.not_eq_true'] at hk
  cases lu with
  |agg _ xs hx=>
  show(xs.size==xs.size&&(xs.toList.zip xs.toList).all fun(x,y)=>Instr.sameBits 9999 x y)=true
  rw[wZ 9999 hk.2 hx];simp
 ·rename_i el c
  simp only[Bool.and_eq_true,decide_eq_true_eq] at hk;cases hu:P.underlying el with
  |none=>rw[hu] at hk;cases hk.2
  |some de=>
   rw[hu] at hk;cases lu with
   |agg _ xs hx=>
   show(xs.size==xs.size&&(xs.toList.zip xs.toList).all fun(x,y)=>Instr.sameBits 9999 x y)=true
   generalize xs.toList=xl at hx;cases hx with
   |cons _ v _ vs a b=>
    cases b;simp[rP hk.2 a 9999]
 ·exact rP hk lu _
theorem zE{kt:TypeId}{d:TypeDesc}{k y:AV}{k' y':Value}{b:Bool}(hd:P.underlying kt=some d)(hk:iM P kt d k=true)(h:mE k y=some b)(lu:VR ρ k k')(hy:VR ρ y y')(w:World):
 (Op.equal kt k' y').run P w= .ok b w/\(Instr.sameNow d k' y'=some b\/Instr.sameNow d k' y'=none)/\(b=true->y'=k'):=by
 show(Op.equalIn (9998+2) kt k' y').run P w= .ok b w/\_
 unfold mE at h;split at h
 ·rename_i a c
  cases lu with
  |agg _ xs hx1=>cases hy with
   |agg _ ys fI=>
    have hn:Instr.sameNow d (.agg xs) (.agg ys)=none:=by cases d<;>rfl
    refine(fun⟨h1,h2⟩=>⟨h1,.inr hn,h2⟩:(_/\_)->_) ?_
    unfold iM at hk;split at hk
    ·rename_i fs cs he
     cases he;simp only[Bool.and_eq_true,Bool.not_eq_true'] at hk;obtain⟨h1,h2⟩:=BN (n:=9998) hd hk.1 hk.2 h hx1 fI w;exact⟨h1,fun h=>by rw[h2 h]⟩
    ·rename_i e cc he
     cases he;simp only[Bool.and_eq_true,decide_eq_true_eq] at hk;cases hu:P.underlying e with
     |none=>rw[hu] at hk;cases hk.2
     |some de=>
      rw[hu] at hk;cases c with
      |nil=>cases h
      |cons c2 c3=>
       obtain⟨x1,xr,ex,g1,g2⟩:∃x1 xr,xs.toList=x1::xr/\VR ρ cc x1/\bO ρ [] xr:=by
        generalize xs.toList=xl at hx1;cases hx1 with
        |cons _ v _ vs a b=>exact⟨v,vs,rfl,a,b⟩
       obtain⟨y1,yr,ey,q1,q2⟩:∃y1 yr,ys.toList=y1::yr/\VR ρ c2 y1/\bO ρ c3 yr:=by
        generalize ys.toList=yl at fI;cases fI with
        |cons _ v _ vs a b=>exact⟨v,vs,rfl,a,b⟩
       have p1:=iK hu (fX hk.2) (show xs[0]? =some x1 by rw[<-Array.getElem?_toList,ex];rfl) w;have p2:=iK hu (fX hk.2) (show ys[0]? =some y1 by rw[<-Array.getElem?_toList,ey];rfl) w;unfold ny at h;cases hc:kM cc c2 with
       |none=>rw[hc] at h;cases h
       |some b0=>
        rw[hc] at h;obtain⟨r1,_,r2⟩:=nE (n:=9998) hu hk.2 hc g1 q1 w;have hr:=IE hd hk.1 p1 p2 r1;cases b0 with
        |false=>cases h;exact⟨hr,fun h=>by cases h⟩
        |true=>
         cases c3 with
         |cons _ _=>cases h
         |nil=>
          cases h;refine⟨hr,fun _=> ?_⟩;cases g2;cases q2;have:ys=xs:=Array.ext' (by rw[ex,ey,r2 rfl]);rw[this]
    ·exact(BS hk).elim
 ·rename_i hn
  have hkc:i6 d k=true:=by
   unfold iM at hk;split at hk
   ·unfold kM at h
    split at h<;>first|(cases h;done)|cases‹AV.agg _=_›
   ·unfold kM at h
    split at h<;>first|(cases h;done)|cases‹AV.agg _=_›
   ·exact hk
  obtain⟨h1,h2,h3⟩:=nE (n:=9999) hd hkc h lu hy w;exact⟨h1,.inl h2,h3⟩
def Fnd(P:Program)(w:World)(kt:TypeId)(d:TypeDesc)(k':Value)(l:List MapEntry)(i:Nat)(q:Option (Nat×Value)):Prop:=(Instr.findAsking kt k' l i).run P w= .ok q w/\(Instr.findNow d k' l i=some q\/Instr.findNow d k' l i=none)
theorem eu{kt:TypeId}{d:TypeDesc}{k:AV}{k':Value}(hd:P.underlying kt=some d)(hk:iM P kt d k=true)(lu:VR ρ k k')(w:World):∀{es:List ME} {l:List MapEntry} (i:Nat) {r:Option (Nat×AV)},MR ρ es l->il k es i=some r->
 (r=none/\Fnd P w kt d k' l i none)\/∃j v e',r=some (j,v)/\i<=j/\l[j-i]? =some e'/\Fnd P w kt d k' l i (some (j,e'.val))/\e'.key=k'/\VR ρ v e'.val
 |[],l,i,r,h,hf=>by
  simp[il] at hf;subst hf;rw[h.kT];exact .inl ⟨rfl,rfl,.inl rfl⟩
 |e::es,l,i,r,h,hf=>by
  obtain⟨e',l',rfl,g1,g2,g3,g4⟩:=h.inv;unfold il at hf;split at hf
  ·rename_i hb
   cases hf;obtain⟨h1,h2,h3⟩:=zE hd hk hb lu g1 w;refine .inr ⟨i,e.v,e',rfl,n_,by simp,⟨by simp[Instr.findAsking,h1],?_⟩,h3 rfl,g2⟩;rcases h2 with h2|h2
   ·exact .inl (by simp[Instr.findNow,h2])
   ·exact .inr (by simp[Instr.findNow,h2])
  ·rename_i hb
   obtain⟨h1,h2,_⟩:=zE hd hk hb lu g1 w
   have hgo:∀q,Fnd P w kt d k' l' (i+1) q->Fnd P w kt d k' (e'::l') i q:=fun q ⟨a1,a2⟩=>⟨by simp[Instr.findAsking,h1,a1],by
    rcases h2 with h2|h2
    ·simpa[Instr.findNow,h2] using a2
    ·exact .inr (by simp[Instr.findNow,h2])⟩
   rcases eu hd hk lu w (i+1) g4 hf with⟨h2,h3⟩|⟨j,v,x,h2,h3,h4,h5,h6,h7⟩
   ·exact .inl ⟨h2,hgo _ h3⟩
   ·refine .inr ⟨j,v,x,h2,by omega,?_,hgo _ h5,h6,h7⟩
    rw[show j-i=(j-(i+1))+1 by omega,List.getElem?_cons_succ];exact h4
  ·cases hf
theorem BU{t:TypeId}{d:TypeDesc}{k:AV}{k':Value}{n:Nat}(hd:P.underlying t=some d)(hk:i6 d k=true)(lu:VR ρ k k')(e:Bool)(w:World):(Instr.checkKey e (n+1) t k').run P w= .ok () w:=by
 conv=>lhs;unfold Instr.checkKey
 rw[Sem.run_bind,run_underlying hd];cases d<;>simp[i6] at hk<;>cases lu<;>first|rfl|simp at hk
theorem E8{n:Nat}{xs:Array Value}(e:Bool)(w:World):∀{fs:List Field} {cs:List AV} {i:Nat} {cs':List Value},iC P fs cs i=true->bO ρ cs cs'->(∀j v,cs'[j]? =some v->xs[i+j]? =some v)->
 (forIn (m:=Sem) fs PUnit.unit (fun f (_:PUnit)=>if f.name≠ "_" then do let v<-part f.type xs f.offset;Instr.checkKey e (n+1) f.type v;pure (ForInStep.yield PUnit.unit) else pure (ForInStep.yield PUnit.unit))).run P w= .ok PUnit.unit w
 |[],[],i,cs',hk,hx,h1=>rfl
 |[],_::_,i,cs',hk,hx,h1=>by cases hk
 |_::_,[],i,cs',hk,hx,h1=>by cases hk
 |f::fs,c::cs,i,cs',hk,hx,h1=>by
  cases hx with
  |cons _ v _ vs g1 g2=>
   simp only[iC,Bool.and_eq_true,bne_iff_ne,ne_eq,decide_eq_true_eq] at hk;obtain⟨⟨⟨k1,k2⟩,k3⟩,k4⟩:=hk;cases hu:P.underlying f.type with
   |none=>rw[hu] at k3;cases k3
   |some d=>
    rw[hu] at k3;have p1:=iK hu (fX k3) (h1 0 v rfl) w;rw[Nat.add_zero] at p1;have ih:=E8 (n:=n) e w k4 g2 (fun j v hv=>by rw[show i+1+j=i+(j+1) by omega];exact h1 (j+1) v (by simpa using hv));rw[List.forIn_cons,if_pos k1,k2];simp only[Sem.run_bind,p1,Result.andThen_ok,BU hu k3 g1 e w,Sem.run_pure];exact ih
theorem jx{d:TypeDesc}{kt:TypeId}{k:AV}{k':Value}(hd:P.underlying kt=some d)(hk:iM P kt d k=true)(lu:VR ρ k k')(e:Bool)(w:World):(Instr.checkKey e 10000 kt k').run P w= .ok () w:=by
 unfold iM at hk;split at hk
 ·rename_i fs cs
  simp only[Bool.and_eq_true,Bool.not_eq_true'] at hk;cases lu with
  |agg _ xs hx=>
  show(Instr.checkKey e (9998+1+1) kt (.agg xs)).run P w= .ok () w
  conv=>lhs;unfold Instr.checkKey
  rw[Sem.run_bind,run_underlying hd];simp only[Result.andThen_ok];rw[<-Array.forIn_toList];rw[Sem.run_bind];have:=E8 (n:=9998) e w hk.2 hx (fun j v hv=>by simpa using hv);rw[this];rfl
 ·rename_i el c
  simp only[Bool.and_eq_true,decide_eq_true_eq] at hk;cases hu:P.underlying el with
  |none=>rw[hu] at hk;cases hk.2
  |some de=>
   rw[hu] at hk;cases lu with
   |agg _ xs hx=>
   obtain⟨x1,xr,ex,g1,g2⟩:∃x1 xr,xs.toList=x1::xr/\VR ρ c x1/\bO ρ [] xr:=by
    generalize xs.toList=xl at hx;cases hx with
    |cons _ v _ vs a b=>exact⟨v,vs,rfl,a,b⟩
   have p1:=iK hu (fX hk.2) (show xs[0]? =some x1 by rw[<-Array.getElem?_toList,ex];rfl) w;show(Instr.checkKey e (9998+1+1) kt (.agg xs)).run P w= .ok () w
   conv=>lhs;unfold Instr.checkKey
   simp only[Sem.run_bind,run_underlying hd,Result.andThen_ok];simp only[Std.Legacy.Range.forIn_eq_forIn_range',Std.Legacy.Range.size,Nat.sub_zero,Nat.add_one_sub_one,Nat.div_one];simp[List.range'_succ,List.range'_zero,List.forIn_cons,List.forIn_nil,bW hk.1,p1,BU hu hk.2 g1 e w]
 ·exact BU hd hk lu e w
theorem jy{d:TypeDesc}{kt:TypeId}{k':Value}{l:List MapEntry}{r:Option (Nat×Value)}(hd:P.underlying kt=some d)(h:Fnd P w kt d k' l 0 r):(Instr.findKey kt k' l).run P w= .ok r w:=by
 obtain⟨h1,h2⟩:=h;rcases h2 with h2|h2
 ·simp[Instr.findKey,run_underlying hd,h2]
 ·simp[Instr.findKey,run_underlying hd,h2,h1]
theorem zF{x:AV}{es:List ME}{s1:St}(h:mapA x s=some (es,s1)):aF s s1/\s1.heap=s.heap/\s1.n=s.n:=by
 unfold mapA at h;split at h
 ·cases h;exact⟨aF.refl _,rfl,rfl⟩
 ·split at h
  ·rename_i hb
   cases h;exact⟨aF.note _ _ ⟨_,hb,trivial⟩,rfl,rfl⟩
  ·cases h
 ·cases h
theorem Vx{x:AV}{x':Value}{es:List ME}{s1:St}(h:mapA x s=some (es,s1))(hp:Pre ρ T s s1 w)(hx:VR ρ x x'):
 (x'= .map none/\es=[])\/∃r l clock,x'= .map (some r)/\w.heap[r]? =some (.map l clock)/\MR ρ es l.toList:=by
 unfold mapA at h;split at h
 ·cases h;cases hx;exact .inl ⟨rfl,rfl⟩
 ·rename_i b
  split at h
  ·rename_i es0 clock hb
   cases h;cases hx with
   |map b r hbr=>
   have hT:T b 0:=hp.o8 (.rd b 0 1) (List.mem_cons_self ..) (fY hp.wf hb) b 0 ⟨rfl,n_,Nat.one_pos⟩;obtain⟨r0,l,q1,q2,q3⟩:=hp.good.sat b _ hb ⟨0,hT⟩;have:r0=r:=i_ (q1.symm.trans hbr);subst this;exact .inr ⟨r0.blk,l,clock,rfl,q2,q3⟩
  ·cases h
 ·cases h
theorem xT{t:TypeId}{x i v:AV}{ok:Bool}(h:mJ P t x i ok s=some (v,s')):aF s s':=by
 unfold mJ at h;split at h
 ·split at h
  ·rename_i hm
   obtain⟨h1,h2,h3⟩:=zF hm;split at h
   ·split at h
    ·cases h;exact h1
    ·split at h
     ·cases h;exact h1
     ·cases h
    ·cases h
   ·cases h
  ·cases h
 ·cases h
theorem Fa{t:TypeId}{x i v:AV}{x' i':Value}{ok:Bool}(h:mJ P t x i ok s=some (v,s'))(hp:Pre ρ T s s' w)(hx:VR ρ x x')(hi:VR ρ i i'):fS P (Instr.lookup t x' i' ok) ρ T s w v s':=by
 unfold mJ at h;split at h
 ·rename_i kt e hu
  split at h
  ·rename_i d es s1 hd hm
   obtain⟨m1,m2,m3⟩:=zF hm;split at h
   ·rename_i hk
    have hs1:s1=s':=by
     split at h
     ·cases h;rfl
     ·split at h
      ·cases h;rfl
      ·cases h
     ·cases h
    subst hs1;have aM:Post ρ T s w ρ s1 w:=Post.same hp.good m2 m3 (Still.refl w)
    have hes:∃l:Array MapEntry,MR ρ es l.toList/\((x'= .map none/\l=#[])\/∃r clock,x'= .map (some r)/\w.heap[r]? =some (.map l clock)):=by
     rcases Vx hm hp hx with⟨rfl,rfl⟩|⟨r,l,clock,rfl,h2,h3⟩
     ·exact⟨#[],MR.nil,.inl ⟨rfl,rfl⟩⟩
     ·exact⟨l,h3,.inr ⟨r,clock,rfl,h2⟩⟩
    obtain⟨l,XF,NJ⟩:=hes;split at h
    ·rename_i j v0 hf
     cases h;rcases eu hd hk hi w 0 XF hf with⟨h2,_⟩|⟨j',v',e',h2,h3,h4,h5,h6,h7⟩
     ·cases h2
     ·cases h2
      refine⟨ρ,w,if ok then .tuple #[e'.val,.bool true] else e'.val,?_,aM,?_⟩
      ·rcases NJ with⟨rfl,rfl⟩|⟨r,clock,rfl,hr⟩
       ·simp at h4
       ·unfold Instr.lookup
        simp only[Sem.run_bind,run_underlying hu,Result.andThen_ok,MapKept.run_getObj_map hr,Sem.run_pure,jx hd hk hi,jy hd h5]
      ·cases ok
       ·exact h7
       ·exact .tuple _ _ (.cons _ _ _ _ h7 (.cons _ _ _ _ (.bool _) .nil))
    ·rename_i hf
     split at h
     ·rename_i z hz
      cases h;obtain⟨zv,hz1,_,hz3⟩:=wL (ρ:=ρ) hz w;rcases eu hd hk hi w 0 XF hf with⟨_,h3⟩|⟨j',v',e',h2,_⟩
      ·refine⟨ρ,w,if ok then .tuple #[zv,.bool false] else zv,?_,aM,?_⟩
       ·rcases NJ with⟨rfl,rfl⟩|⟨r,clock,rfl,hr⟩
        ·unfold Instr.lookup
         simp only[Sem.run_bind,run_underlying hu,Result.andThen_ok,Sem.run_pure,jx hd hk hi,jy hd h3,hz1]
        ·unfold Instr.lookup
         simp only[Sem.run_bind,run_underlying hu,Result.andThen_ok,MapKept.run_getObj_map hr,Sem.run_pure,jx hd hk hi,jy hd h3,hz1]
       ·cases ok
        ·exact hz3
        ·exact .tuple _ _ (.cons _ _ _ _ hz3 (.cons _ _ _ _ (.bool _) .nil))
      ·cases h2
     ·cases h
    ·cases h
   ·cases h
  ·cases h
 ·cases h
theorem xa{x:AV}{b:Nat}{es:List ME}(h:wy x s=some (b,es)):x= .map b/\s.heap.get b=some (.pmap es):=by
 unfold wy at h;split at h
 ·split at h
  ·rename_i hb
   cases h;exact⟨rfl,hb⟩
  ·cases h
 ·cases h
theorem ow{t:TypeId}{b:Nat}{es:List ME}{i v:AV}{ok:Bool}(h:iH P t b es i ok s=some (v,s')):s'=s.note (.rd b 0 1):=by
 unfold iH at h;split at h
 ·split at h
  ·split at h
   ·split at h
    ·cases h;rfl
    ·split at h
     ·cases h;rfl
     ·cases h
    ·cases h
   ·cases h
  ·cases h
 ·cases h
theorem xc{t:TypeId}{x:AV}{b:Nat}{es:List ME}{i v:AV}{ok:Bool}(hx:wy x s=some (b,es))(h:iH P t b es i ok s=some (v,s')):aF s s':=by
 rw[ow h];exact aF.note _ _ ⟨_,(xa hx).2,trivial⟩
theorem zG{k:AV}:∀{es:List ME} (i:Nat),(es.all fun e=>(mE k e.k).isSome)=true->∃r,il k es i=some r/\r.map (·.2)=((es.filter fun e=>mE k e.k==some true).head?).map (·.v)
 |[],i,_=>⟨none,rfl,rfl⟩
 |e::es,i,h=>by
  simp only[List.all_cons,Bool.and_eq_true] at h;cases he:mE k e.k with
  |none=>rw[he] at h;cases h.1
  |some b=>
   unfold il;simp only[he];cases b with
   |true=>exact⟨_,rfl,by simp[he]⟩
   |false=>
    obtain⟨r,h1,h2⟩:=zG (i+1) h.2;exact⟨r,h1,by rw[h2];simp[he]⟩
theorem IG{k:AV}{es el:List ME}{r:Option AV}(h:JV k es=some r)(hp:List.Perm el es):∃q,il k el 0=some q/\q.map (·.2)=r:=by
 unfold JV at h;split at h
 ·rename_i ha
  have ha':(el.all fun e=>(mE k e.k).isSome)=true:=by
   rw[List.all_eq_true] at ha⊢;exact fun x hx=>ha x (hp.mem_iff.1 hx)
  obtain⟨q,h1,h2⟩:=zG 0 ha';have hf:=hp.filter (fun e=>mE k e.k==some true);refine⟨q,h1,?_⟩;rw[h2];split at h
  ·rename_i hn
   cases h;rw[hn] at hf;rw[hf.eq_nil];rfl
  ·rename_i e hn
   cases h;rw[hn] at hf;rw[List.perm_singleton.1 hf];rfl
  ·cases h
 ·cases h
theorem MR.stamped{ρ:Env}:∀{el:List ME} {l:List MapEntry},bO ρ (el.map (·.k)) (l.map (·.key))->bO ρ (el.map (·.v)) (l.map (·.val))->∃Y9,MR ρ Y9 l/\∀k i,(il k Y9 i).map (·.map (·.2))=(il k el i).map (·.map (·.2))
 |[],[],_,_=>⟨[],.nil,fun _ _=>rfl⟩
 |[],_::_,h,_=>by cases h
 |_::_,[],h,_=>by cases h
 |e::el,x::l,h1,h2=>by
  simp only[List.map_cons] at h1 h2;cases h1 with
  |cons _ _ _ _ a b=>cases h2 with
   |cons _ _ _ _ c d=>
    obtain⟨Y9,g1,g2⟩:=MR.stamped b d;refine⟨⟨e.k,e.v,x.born⟩::Y9,g1.cons a c rfl,fun k i=> ?_⟩;unfold il;cases mE k e.k with
    |none=>rfl
    |some b=>cases b<;>first|rfl|exact g2 k (i+1)
theorem BV{t:TypeId}{x:AV}{b:Nat}{es:List ME}{i v:AV}{x' i':Value}{ok:Bool}(hx0:wy x s=some (b,es))(h:iH P t b es i ok s=some (v,s'))(hp:Pre ρ T s s' w)(hx:VR ρ x x')(hi:VR ρ i i'):fS P (Instr.lookup t x' i' ok) ρ T s w v s':=by
 have Nf:=ow h;subst Nf;obtain⟨rfl,hb⟩:=xa hx0;cases hx with
 |map _ r hbr=>
 have hT:T b 0:=hp.o8 (.rd b 0 1) (List.mem_cons_self ..) (fY hp.wf hb) b 0 ⟨rfl,n_,Nat.one_pos⟩;obtain⟨r0,l,el,clock,q1,q2,q3,q4,q5⟩:=hp.good.sat b _ hb ⟨0,hT⟩;have:r0=r:=i_ (q1.symm.trans hbr);subst this;have aM:Post ρ T s w ρ (s.note (.rd b 0 1)) w:=Post.same hp.good rfl rfl (Still.refl w);obtain⟨Y9,XF,hfe⟩:=MR.stamped q4 q5;unfold iH at h;split at h
 ·rename_i kt e hu
  split at h
  ·rename_i d hd
   split at h
   ·rename_i hk
    have fin:∀r1,JV i es=some r1->∃q,il i Y9 0=some q/\q.map (·.2)=r1:=fun r1 hr1=>by
     obtain⟨q,g1,g2⟩:=IG hr1 q3;have:=hfe i 0;rw[g1] at this;cases hq:il i Y9 0 with
     |none=>rw[hq] at this;cases this
     |some q'=>
      rw[hq] at this;simp only[Option.map_some,Option.some.injEq] at this;exact⟨q',rfl,this.trans g2⟩
    split at h
    ·rename_i v0 hf
     obtain⟨q,g1,g2⟩:=fin _ hf;cases h;rcases eu hd hk hi w 0 XF g1 with⟨h2,_⟩|⟨j',v',e',h2,h3,h4,h5,h6,h7⟩
     ·rw[h2] at g2;cases g2
     ·rw[h2] at g2
      simp only[Option.map_some,Option.some.injEq] at g2;subst g2;refine⟨ρ,w,if ok then .tuple #[e'.val,.bool true] else e'.val,?_,aM,?_⟩
      ·unfold Instr.lookup
       simp only[Sem.run_bind,run_underlying hu,Result.andThen_ok,MapKept.run_getObj_map q2,Sem.run_pure,jx hd hk hi,jy hd h5]
      ·cases ok
       ·exact h7
       ·exact .tuple _ _ (.cons _ _ _ _ h7 (.cons _ _ _ _ (.bool _) .nil))
    ·rename_i hf
     obtain⟨q,g1,g2⟩:=fin _ hf;split at h
     ·rename_i z hz
      cases h;obtain⟨zv,hz1,_,hz3⟩:=wL (ρ:=ρ) hz w;rcases eu hd hk hi w 0 XF g1 with⟨h2,h3⟩|⟨j',v',e',h2,_⟩
      ·refine⟨ρ,w,if ok then .tuple #[zv,.bool false] else zv,?_,aM,?_⟩
       ·unfold Instr.lookup
        simp only[Sem.run_bind,run_underlying hu,Result.andThen_ok,MapKept.run_getObj_map q2,Sem.run_pure,jx hd hk hi,jy hd h3,hz1]
       ·cases ok
        ·exact hz3
        ·exact .tuple _ _ (.cons _ _ _ _ hz3 (.cons _ _ _ _ (.bool _) .nil))
      ·rw[h2] at g2;cases g2
     ·cases h
    ·cases h
   ·cases h
  ·cases h
 ·cases h
theorem ox{t:TypeId}{m k x:AV}(h:mK P t m k x s=some s'):aF s s':=by
 unfold mK at h;split at h
 ·split at h
  ·rename_i hb
   split at h
   ·split at h
    ·cases h;exact aF.cv _ _ _ ⟨_,hb,trivial⟩
    ·cases h;exact aF.cv _ _ _ ⟨_,hb,trivial⟩
    ·cases h
   ·cases h
  ·cases h
 ·cases h
theorem gC{B:Nat}{o o':Obj}(h:w.heap[B]? =some o):Alt w {w with heap:=w.heap.setIfInBounds B o'} B o':=
 ⟨rfl,rfl,rfl,by simp,by have:=jb h;simp[this],fun B' hB=>by simp[Ne.symm hB]⟩
theorem iN{B:Nat}{l:Array MapEntry}{c:Nat}{o':Obj}(h:w.heap[B]? =some (.map l c)):(setObj B o').run P w= .ok () {w with heap:=w.heap.setIfInBounds B o'}:=MapKept.run_setObj_map o' h
theorem sK{t:TypeId}{m k x:AV}{m' k' x':Value}(h:mK P t m k x s=some s')(hp:Pre ρ T s s' w)(hm:VR ρ m m')(hk:VR ρ k k')(hx:VR ρ x x'):∃w',(Instr.mapUpdate t m' k' x').run P w= .ok () w'/\Post ρ T s w ρ s' w':=by
 unfold mK at h;split at h
 ·rename_i kt et b hu
  split at h
  ·rename_i d es clock hd hb
   split at h
   ·rename_i Ta
    cases hm with
    |map b r hbr=>
    split at h
    ·rename_i j v0 hf
     cases h;have hT:∀i,T b i:=fun i=>hp.o8 (.all b) (List.mem_cons_self ..) (fY hp.wf hb) b i rfl;obtain⟨r0,l,q1,q2,q3⟩:=hp.good.sat b _ hb ⟨0,hT 0⟩;have:r0=r:=i_ (q1.symm.trans hbr);subst this;rcases eu hd Ta hk w 0 q3 hf with⟨h2,_⟩|⟨j',v',e',h2,h3,h4,h5,h6,h7⟩
     ·cases h2
     ·cases h2
      rw[Nat.sub_zero,Array.getElem?_toList] at h4;refine⟨_,?_,Post.alt hp.good hb trivial ⟨0,hT 0⟩ hbr (gC q2 (o':= .map (l.modify j fun e=>{e with key:=k',val:=x'}) clock)) ⟨r0,_,hbr,(gC q2).here,?_⟩⟩
      ·have hkey:(((l[j]?).map (·.key)).getD k')=k':=by rw[h4];exact h6
       have hst:(Instr.keyThatStays k' k').run P w= .ok k' w:=by
        have hsb:Instr.sameBits 10000 k' k'=true:=RV Ta hk;simp[Instr.keyThatStays,hsb]
       unfold Instr.mapUpdate;rw[Sem.run_bind,run_underlying hu];simp only[Result.andThen_ok,Sem.run_bind,MapKept.run_getObj_map q2,jx hd Ta hk,jy hd h5,hkey,hst,iN q2]
      ·have:=MR.modify hx j q3 (fun y hy=>by
        rw[Array.getElem?_toList,h4] at hy;cases hy;exact h6)
       rw[Array.toList_modify];exact this
    ·rename_i hf
     cases h;have hT:∀i,T b i:=fun i=>hp.o8 (.all b) (List.mem_cons_self ..) (fY hp.wf hb) b i rfl;obtain⟨r0,l,q1,q2,q3⟩:=hp.good.sat b _ hb ⟨0,hT 0⟩;have:r0=r:=i_ (q1.symm.trans hbr);subst this;rcases eu hd Ta hk w 0 q3 hf with⟨_,h3⟩|⟨j',v',e',h2,_⟩
     ·refine⟨_,?_,Post.alt hp.good hb trivial ⟨0,hT 0⟩ hbr (gC q2 (o':= .map (l.push {key:=k',val:=x',born:=clock}) (clock+1))) ⟨r0,_,hbr,(gC q2).here,?_⟩⟩
      ·unfold Instr.mapUpdate
       rw[Sem.run_bind,run_underlying hu];simp only[Result.andThen_ok,Sem.run_bind,MapKept.run_getObj_map q2,jx hd Ta hk,jy hd h3,iN q2]
      ·rw[Array.toList_push]
       exact MR.append q3 hk hx rfl
     ·cases h2
    ·cases h
   ·cases h
  ·cases h
 ·cases h
theorem MR.erase{ρ:Env}:∀{es:List ME} {l:List MapEntry} (i:Nat),MR ρ es l->MR ρ (es.eraseIdx i) (l.eraseIdx i)
 |[],l,i,h=>by rw[h.kT];simpa using MR.nil
 |e::es,l,0,h=>by
  obtain⟨e',l',rfl,g1,g2,g3,g4⟩:=h.inv;exact g4
 |e::es,l,i+1,h=>by
  obtain⟨e',l',rfl,g1,g2,g3,g4⟩:=h.inv;simp only[List.eraseIdx_cons_succ];exact .cons g1 g2 g3 (MR.erase i g4)
theorem gV{x:Option St}{v:AV}(h:unit x=some (v,s')):x=some s'/\v=ig:=by
 unfold unit at h;split at h
 ·cases h;exact⟨rfl,rfl⟩
 ·cases h
theorem xU{t:TypeId}{m k:AV}(h:mF P t m k s=some s'):aF s s':=by
 unfold mF at h;split at h
 ·split at h
  ·rename_i hb
   split at h
   ·split at h
    ·cases h;exact aF.cv _ _ _ ⟨_,hb,trivial⟩
    ·cases h;exact aF.cv _ _ _ ⟨_,hb,trivial⟩
    ·cases h
   ·cases h
  ·cases h
 ·cases h
theorem Fb{ts:Array TypeId}{t ty:TypeId}{m k:AV}{m' k':Value}(ht:ts[0]? =some t)(h:mF P t m k s=some s')(hp:Pre ρ T s s' w)(hm:VR ρ m m')(hk:VR ρ k k'):fS P (Builtin.delete_ ts ty #[m',k']) ρ T s w ig s':=by
 unfold mF at h;split at h
 ·rename_i kt et b hu
  split at h
  ·rename_i d es clock hd hb
   split at h
   ·rename_i Ta
    cases hm with
    |map b r hbr=>
    split at h
    ·rename_i j v0 hf
     cases h;have hT:∀i,T b i:=fun i=>hp.o8 (.all b) (List.mem_cons_self ..) (fY hp.wf hb) b i rfl;obtain⟨r0,l,q1,q2,q3⟩:=hp.good.sat b _ hb ⟨0,hT 0⟩;have:r0=r:=i_ (q1.symm.trans hbr);subst this;rcases eu hd Ta hk w 0 q3 hf with⟨h2,_⟩|⟨j',v',e',h2,h3,h4,h5,h6,h7⟩
     ·cases h2
     ·cases h2
      refine⟨ρ,_,.tuple #[],?_,Post.alt hp.good hb trivial ⟨0,hT 0⟩ hbr (gC q2 (o':= .map (l.eraseIdxIfInBounds j) clock)) ⟨r0,_,hbr,(gC q2).here,?_⟩,.tuple _ _ .nil⟩
      ·unfold Builtin.delete_
       simp only[ht,List.getElem?_toArray,List.getElem?_cons_zero,List.getElem?_cons_succ,Sem.run_bind,run_underlying hu,Result.andThen_ok,MapKept.run_getObj_map q2,jx hd Ta hk,jy hd h5,iN q2,Sem.run_pure]
      ·rw[Array.toList_eraseIdxIfInBounds]
       exact MR.erase j q3
    ·rename_i hf
     cases h;have hT:∀i,T b i:=fun i=>hp.o8 (.all b) (List.mem_cons_self ..) (fY hp.wf hb) b i rfl;obtain⟨r0,l,q1,q2,q3⟩:=hp.good.sat b _ hb ⟨0,hT 0⟩;have:r0=r:=i_ (q1.symm.trans hbr);subst this;rcases eu hd Ta hk w 0 q3 hf with⟨_,h3⟩|⟨j',v',e',h2,_⟩
     ·refine⟨ρ,_,.tuple #[],?_,Post.alt hp.good hb trivial ⟨0,hT 0⟩ hbr (gC q2 (o':= .map l clock)) ⟨r0,_,hbr,(gC q2).here,q3⟩,.tuple _ _ .nil⟩
      unfold Builtin.delete_;simp only[ht,List.getElem?_toArray,List.getElem?_cons_zero,List.getElem?_cons_succ,Sem.run_bind,run_underlying hu,Result.andThen_ok,MapKept.run_getObj_map q2,jx hd Ta hk,jy hd h3,iN q2,Sem.run_pure]
     ·cases h2
    ·cases h
   ·cases h
  ·cases h
 ·cases h
end
inductive Vy(ρ:Env):DE->Deferred->Prop
 |fn (f:FuncId) (args:List AV) (cap as:Array Value) (h:bO ρ args (as++cap).toList):Vy ρ (.fn f args) {target:= .fn (.func f) cap,args:=as}
 |mark (b:Nat) (r:RB) (h:ρ b=some r):Vy ρ (.mark b) {target:= .collected r.blk,args:=#[]}
inductive qE(ρ:Env):List DE->List Deferred->Prop
 |nil:qE ρ [] []
 |cons (e:DE) (d:Deferred) (l:List DE) (k:List Deferred) (h:Vy ρ e d) (t:qE ρ l k):qE ρ (e::l) (d::k)
theorem qE.mono{ρ ρ':Env}(hr:ρ.le ρ'):∀{l:List DE} {k:List Deferred},qE ρ l k->qE ρ' l k
 |_,_,.nil=> .nil
 |_,_,.cons _ _ _ _ h t=> .cons _ _ _ _ (by
   cases h with
   |fn f args cap as h=>exact .fn f args cap as (bO.mono hr h)
   |mark b r h=>exact .mark b r (hr _ _ h)) (qE.mono hr t)
structure dp(ρ:Env)(aa:bI)(a:Act):Prop where
 size:a.tmps.size=aa.sz
 get:∀t,VR ρ (aa.get t) (a.tmps.getD t undef)
 defs:qE ρ aa.defs a.defers
section
variable {P:Program} {ρ:Env} {T:Nat->Nat->Prop} {s s':St} {w w':World} {aa:bI} {a:Act}
theorem dp.mono{ρ':Env}(h:dp ρ aa a)(hr:ρ.le ρ'):dp ρ' aa a:=⟨h.size,fun t=>(h.get t).mono hr,h.defs.mono hr⟩
theorem dp.eval(h:dp ρ aa a)(x:Operand):VR ρ (aZ aa x) (a.eval x):=by
 cases x with
 |tmp t=>exact h.get t
 |const v=>exact BH 3 v
 |global g=>exact .top _
 |func f=>exact .func f [] [] #[] #[] .nil .nil
theorem mV:VR ρ ig undef:= .tuple [] #[] .nil
theorem dp.oZ{v:AV}{v':Value}(h:dp ρ aa a)(d:Tmp)(hv:VR ρ v v'):dp ρ (aa.oZ d v) {a with tmps:=a.tmps.setIfInBounds d v'}:=by
 unfold bI.oZ;split
 ·rename_i hd
  refine⟨by simp[h.size],fun t=> ?_,h.defs⟩;unfold bI.get;rw[Tr.iD];by_cases ht:t=d
  ·subst ht
   rw[if_pos rfl];have hlt:t<a.tmps.size:=by rw[h.size];exact hd
   simpa[Array.getD_eq_getD_getElem?,Array.getElem?_setIfInBounds,hlt] using hv
  ·rw[if_neg ht]
   have:=h.get t;unfold bI.get at this;simpa[Array.getD_eq_getD_getElem?,Array.getElem?_setIfInBounds,Ne.symm ht] using this
 ·rename_i hd
  have:a.tmps.setIfInBounds d v'=a.tmps:=by
   apply Array.ext_getElem?;intro i;rw[Array.getElem?_setIfInBounds];split
   ·rename_i hi
    subst hi;rw[if_neg (by rw[h.size];exact hd),Array.getElem?_eq_none (Nat.not_lt.1 (by rw[h.size];exact hd))]
   ·rfl
  rw[this];exact h
theorem dp.put{v:AV}{v':Value}(h:dp ρ aa a)(d:Option Tmp)(hv:VR ρ v v'):dp ρ (aa.put d v) (a.put d v'):=by
 cases d with
 |none=>exact h
 |some d=>exact h.oZ d hv
theorem dp.args(h:dp ρ aa a)(xs:Array Operand):bO ρ (xs.toList.map (aZ aa)) (xs.map a.eval).toList:=by
 rw[Array.toList_map];exact bO.map _ _ _ (fun x _=>h.eval x)
theorem dp.parts(h:dp ρ aa a)(ps:Array (Nat×Operand)):PR ρ (parts aa ps) (ps.map fun(i,x)=>(i,a.eval x)).toList:=by
 unfold Rk.parts;rw[Array.toList_map]
 have:∀l:List (Nat×Operand),PR ρ (l.map fun p=>(p.1,aZ aa p.2)) (l.map fun(i,x)=>(i,a.eval x)):=by
  intro l
  induction l with
  |nil=>exact .nil
  |cons p l ih=>exact .cons p.1 _ _ _ _ (h.eval p.2) ih
 exact this _
theorem BX{t:TypeId}{x v:AV}(h:qo P t x s=some (v,s')):aF s s':=by
 unfold qo at h;split at h
 ·cases h;exact aF.new _ _
 ·cases h;exact aF.new _ _
 ·split at h
  ·rename_i es clock hm
   cases h;exact(aF.note _ (.rd _ 0 1) ⟨.map es clock,hm,trivial⟩).trans (aF.new _ _)
  ·cases h
 ·cases h
theorem II{t:TypeId}{x v:AV}{x':Value}(h:qo P t x s=some (v,s'))(hp:Pre ρ T s s' w)(hx:VR ρ x x'):fS P (Instr.range t x') ρ T s w v s':=by
 unfold qo at h;split at h
 ·rename_i l hu
  cases h;cases hx with
  |str _ hl=>
  have hf:ρ s.n=none:=hp.fresh s.n (n_) (Nat.lt_succ_self _);refine⟨_,_,.pointer (some ⟨w.heap.size,0,none⟩),by simp[Instr.range,run_underlying hu],Post.made (o:= .stringIter ⟨(l.map UInt8.ofNat).toArray⟩ 0) (r:=⟨w.heap.size,0,0⟩) hp.good hp.wf hf hp.tn (Add.push w _) rfl ⟨_,Env.bz _ _,rfl,(Add.push w _).here,hl⟩,?_⟩;exact .ptr s.n 0 _ (Env.bz _ _)
 ·rename_i k e hu
  cases h;cases hx;have hf:ρ s.n=none:=hp.fresh s.n (n_) (Nat.lt_succ_self _);refine⟨_,_,.pointer (some ⟨w.heap.size,0,none⟩),by simp[Instr.range,run_underlying hu],Post.made (o:= .mapIter none 0 #[] 0) (r:=⟨w.heap.size,0,0⟩) hp.good hp.wf hf hp.tn (Add.push w _) rfl ⟨_,none,Env.bz _ _,rfl,(Add.push w _).here,rfl⟩,?_⟩;exact .ptr s.n 0 _ (Env.bz _ _)
 ·rename_i k e m hu
  split at h
  ·rename_i es clock hm
   cases h;cases hx with
   |map _ r hbr=>
   have hmn:=fY hp.wf hm;have hT:T m 0:=hp.o8 (.rd m 0 1) (List.mem_cons_self ..) hmn m 0 ⟨rfl,n_,Nat.one_pos⟩;obtain⟨r0,l,q1,q2,q3⟩:=hp.good.sat m _ hm ⟨0,hT⟩;have:r0=r:=i_ (q1.symm.trans hbr);subst this;have hf:ρ s.n=none:=hp.fresh s.n (n_) (Nat.lt_succ_self _);have aM:Post ρ T s w ρ (s.note (.rd m 0 1)) w:=Post.same hp.good rfl rfl (Still.refl w);have jbv:aF s (s.note (.rd m 0 1)):=aF.note _ _ ⟨_,hm,trivial⟩;have lG:=hp.next jbv (aF.new _ (.eE (some m) clock [] clock)) aM
   refine⟨_,_,.pointer (some ⟨w.heap.size,0,none⟩),by simp[Instr.range,run_underlying hu,MapKept.run_getObj_map q2],aM.trans jbv (aF.new _ _) (Post.made (o:= .mapIter (some r0.blk) clock #[] clock) (r:=⟨w.heap.size,0,0⟩) lG.good lG.wf hf lG.tn (Add.push w _) rfl ⟨_,some r0.blk,Env.bz _ _,rfl,(Add.push w _).here,r0,Env.pg hf _ _ hbr,rfl⟩),?_⟩;exact .ptr s.n 0 _ (Env.bz _ _)
  ·cases h
 ·cases h
theorem Fc{x v:AV}(h:wz x s=some (v,s')):aF s s':=by
 unfold wz at h;split at h
 ·split at h
  ·rename_i hb
   cases h;exact aF.note _ _ ⟨_,hb,trivial⟩
  ·rename_i m0 _ _ _ hb
   split at h
   ·rename_i hm
    have Ja:∀b0 a1 a2 a3 a4,s.heap.get b0=some (.eE a1 a2 a3 a4)->m0≠b0:=fun b0 _ _ _ _ hb e=>by subst e;rw[hm] at hb;cases hb
    split at h
    ·split at h
     ·cases h;exact(aF.note _ (.all _) ⟨.eE _ _ _ _,hb,trivial⟩).trans (aF.note _ (.rd _ 0 1) ⟨.map _ _,hm,trivial⟩)
     ·split at h
      ·cases h;exact(aF.cv _ _ _ ⟨_,hb,trivial⟩).trans (aF.note _ (.rd _ 0 1) ⟨.map _ _,by
        show(s.put _ _).heap.get m0=_
        rw[dn,if_neg (Ja _ _ _ _ _ hb)];exact hm,trivial⟩)
      ·cases h
     ·cases h
    ·cases h
   ·cases h
  ·cases h
 ·cases h
theorem Ng{x v:AV}{x':Value}{ty:TypeId}(h:wz x s=some (v,s'))(hp:Pre ρ T s s' w)(hx:VR ρ x x'):fS P (Instr.next x' false ty) ρ T s w v s':=by
 unfold wz at h;split at h
 ·rename_i b
  cases hx with
  |ptr _ _ r hbr=>
  split at h
  ·rename_i hb
   cases h;have hT:∀i,T b i:=fun i=>hp.o8 (.all b) (List.mem_cons_self ..) (fY hp.wf hb) b i rfl;obtain⟨r0,m',q1,q2,q3,q4⟩:=hp.good.sat b _ hb ⟨0,hT 0⟩;have:r0=r:=i_ (q1.symm.trans hbr);subst this;have q4:m'=none:=q4;subst q4;refine⟨ρ,w,_,?_,Post.same hp.good rfl rfl (Still.refl w),.tuple _ _ (.cons _ _ _ _ (.bool false) .nil)⟩;simp[Instr.next,RB.at,q2,getObj,Sem.run,q3]
  ·rename_i m since seen last hb
   split at h
   ·rename_i es clock hm
    split at h
    ·rename_i ou
     have hmn:=fY hp.wf hm;have tW:=fY hp.wf hb
     have Nf:LE.all b∈s'.log/\LE.rd m 0 1∈s'.log:=by
      split at h
      ·cases h;exact⟨List.mem_cons_of_mem _ (List.mem_cons_self ..),List.mem_cons_self ..⟩
      ·split at h
       ·cases h;exact⟨List.mem_cons_of_mem _ (List.mem_cons_self ..),List.mem_cons_self ..⟩
       ·cases h
      ·cases h
     have hT:∀i,T b i:=fun i=>hp.o8 (.all b) Nf.1 tW b i rfl;have hTm:T m 0:=hp.o8 (.rd m 0 1) Nf.2 hmn m 0 ⟨rfl,n_,Nat.one_pos⟩;obtain⟨r0,m',q1,q2,q3,q,q5,q6⟩:=hp.good.sat b _ hb ⟨0,hT 0⟩;have:r0=r:=i_ (q1.symm.trans hbr);subst this;subst q6;obtain⟨rm,l,p1,p2,p3⟩:=hp.good.sat m _ hm ⟨0,hTm⟩;have:rm=q:=i_ (p1.symm.trans q5);subst this;have p3:MR ρ es l.toList:=p3;have jcx:=p3.any (fun b=>decide (b<last))
     have mW:(!seen.toArray.isEmpty&& !l.isEmpty&&l.all (fun e=>decide (e.born>=last)))=false:=by
      have e1:l.isEmpty=es.isEmpty:=by
       have:=p3.len;rw[Array.length_toList] at this;rw[Bool.eq_iff_iff];simp only[Array.isEmpty_iff_size_eq_zero,List.isEmpty_iff_length_eq_zero];omega
      have e2:l.all (fun e=>decide (e.born>=last))= !(es.any (fun e=>decide (e.born<last))):=by
       rw[jcx,<-Array.all_toList,List.not_any_eq_all_not];congr 1;funext e;rw[Bool.eq_iff_iff];simp
      rw[e1,e2];simp only[Bool.or_eq_true] at ou;rcases ou with(h1|h1)|h1
      ·have:seen.toArray.isEmpty=true:=by simpa using h1
       rw[this];rfl
      ·rw[h1];simp
      ·rw[h1];simp
     have J8:=p3.filter (fun b=> !seen.contains b)
     have RX:(l.filter (fun e=> !seen.toArray.contains e.born)).toList=l.toList.filter (fun e=> !seen.contains e.born):=by
      rw[Array.toList_filter];congr 1;funext e;simp
     have gZ:(getObj r0.blk).run P w= .ok (.mapIter (some rm.blk) since seen.toArray last) w:=by simp[getObj,Sem.run,q3]
     split at h
     ·rename_i hnil
      cases h;rw[hnil] at J8;have hl0:=J8.kT
      have dF:l.filter (fun e=> !seen.toArray.contains e.born)=#[]:=by
       apply Array.ext';rw[RX,hl0]
      refine⟨ρ,w,_,?_,Post.same hp.good rfl rfl (Still.refl w),.tuple _ _ (.cons _ _ _ _ (.bool false) .nil)⟩;unfold Instr.next
      simp only[RB.at,q2,Nat.add_zero,Sem.run_bind,gZ,Result.andThen_ok,MapKept.run_getObj_map p2,mW,Bool.false_eq_true,if_false,dF];simp[Question.forced]
     ·rename_i e je
      split at h
      ·rename_i jcS
       cases h;rw[je] at J8;obtain⟨e',l',hl0,g1,g2,g3,g4⟩:=J8.inv;have:=g4.kT;subst this
       have dF:l.filter (fun e=> !seen.toArray.contains e.born)=#[e']:=by
        apply Array.ext';rw[RX,hl0]
       have hob:e'.born<since:=by omega
       have Ae:(#[e'].filter fun e=>decide (e.born<since))=#[e']:=by
        apply Array.ext';rw[Array.toList_filter];simp[hob]
       have jbw:(#[e'].filter fun e=>decide (e.born>=since))=#[]:=by
        apply Array.ext';rw[Array.toList_filter];simp;omega
       have fJ:(setObj r0.blk (.mapIter (some rm.blk) since (seen++[e'.born]).toArray clock)).run P w= .ok () {w with heap:=w.heap.setIfInBounds r0.blk (.mapIter (some rm.blk) since (seen++[e'.born]).toArray clock)}:=by simp[setObj,Sem.run,q3]
       have halt:=gC q3 (o':= .mapIter (some rm.blk) since (seen++[e'.born]).toArray clock);have aM:=Post.alt (x':= .eE (some m) since (seen++[e.born]) clock) hp.good hb trivial ⟨0,hT 0⟩ hbr halt ⟨r0,some rm.blk,hbr,q2,by rw[halt.here,g3],rm,q5,rfl⟩
       refine⟨ρ,_,.tuple #[.bool true,e'.key,e'.val],?_,aM.trans (aF.cv _ _ _ ⟨_,hb,trivial⟩) (aF.note _ (.rd _ 0 1) ⟨.map es clock,by
        show(s.put b _).heap.get m=_
        rw[dn,if_neg (fun e=>by subst e;rw[hm] at hb;cases hb)];exact hm,trivial⟩) (Post.same aM.good rfl rfl (Still.refl _)),.tuple _ _ (.cons _ _ _ _ (.bool true) (.cons _ _ _ _ g1 (.cons _ _ _ _ g2 .nil)))⟩
       unfold Instr.next
       simp only[RB.at,q2,Nat.add_zero,Sem.run_bind,gZ,Result.andThen_ok,MapKept.run_getObj_map p2,mW,Bool.false_eq_true,if_false,dF,Ae,jbw];simp[Question.forced,fJ]
      ·cases h
     ·cases h
    ·cases h
   ·cases h
  ·cases h
 ·cases h
theorem BZ{x v:AV}(h:qp x s=some (v,s')):aF s s':=by
 unfold qp at h;split at h
 ·split at h
  ·rename_i hb
   split at h
   ·cases h;exact aF.note _ _ ⟨_,hb,trivial⟩
   ·split at h
    ·cases h;exact aF.cv _ _ _ ⟨_,hb,trivial⟩
    ·cases h
  ·cases h
 ·cases h
theorem Nh(l:List Nat)(hl:∀x∈l,x<256){i c:Nat}(h:l[i]? =some c)(hc:c<128):Utf8.decode ⟨(l.map UInt8.ofNat).toArray⟩ i=(c,1):=by
 have hi:=(g_ h).1
 have hg:((⟨(l.map UInt8.ofNat).toArray⟩:ByteArray).get! (i+0)).toNat=c:=by
  show(((l.map UInt8.ofNat).toArray)[i+0]!).toNat=c
  rw[Nat.add_zero,getElem!_pos _ _ (by simpa using hi)];simp only[List.getElem_toArray,List.getElem_map];have:l[i]=c:=(g_ h).2;rw[this,UInt8.toNat_ofNat'];omega
 unfold Utf8.decode;simp only[hg];rw[if_pos (by omega)]
theorem IJ{x v:AV}{x':Value}{ty:TypeId}(h:qp x s=some (v,s'))(hp:Pre ρ T s s' w)(hx:VR ρ x x'):fS P (Instr.next x' true ty) ρ T s w v s':=by
 unfold qp at h;split at h
 ·rename_i b
  cases hx with
  |ptr _ _ r hbr=>
  split at h
  ·rename_i l pos hb
   have RY:T b 0:=by
    split at h
    ·cases h;exact hp.o8 (.all b) (List.mem_cons_self ..) (fY hp.wf hb) b 0 rfl
    ·split at h
     ·cases h;exact hp.o8 (.all b) (List.mem_cons_self ..) (fY hp.wf hb) b 0 rfl
     ·cases h
   obtain⟨r0,q1,q2,q3,q4⟩:=hp.good.sat b _ hb ⟨0,RY⟩;have:r0=r:=i_ (q1.symm.trans hbr);subst this;have gZ:(getObj r0.blk).run P w= .ok (.stringIter ⟨(l.map UInt8.ofNat).toArray⟩ pos) w:=by simp[getObj,Sem.run,q3]
   have hsz:(⟨(l.map UInt8.ofNat).toArray⟩:ByteArray).size=l.length:=by
    show((l.map UInt8.ofNat).toArray).size=l.length
    simp
   split at h
   ·rename_i hn
    cases h;refine⟨ρ,w,_,?_,Post.same hp.good rfl rfl (Still.refl w),.tuple _ _ (.cons _ _ _ _ (.bool false) .nil)⟩;unfold Instr.next
    simp only[RB.at,q2,Nat.add_zero,Sem.run_bind,gZ,Result.andThen_ok];rw[if_neg (by rw[hsz];have:=List.getElem?_eq_none_iff.1 hn;omega)];rfl
   ·rename_i c hc
    split at h
    ·rename_i hlt
     cases h;have fJ:(setObj r0.blk (.stringIter ⟨(l.map UInt8.ofNat).toArray⟩ (pos+1))).run P w= .ok () {w with heap:=w.heap.setIfInBounds r0.blk (.stringIter ⟨(l.map UInt8.ofNat).toArray⟩ (pos+1))}:=by simp[setObj,Sem.run,q3]
     have halt:=gC q3 (o':= .stringIter ⟨(l.map UInt8.ofNat).toArray⟩ (pos+1));have aM:=Post.alt (x':= .i1 l (pos+1)) hp.good hb trivial ⟨0,RY⟩ hbr halt ⟨r0,hbr,q2,halt.here,q4⟩;refine⟨ρ,_,.tuple #[.bool true,goInt pos,.int .i32 c],?_,aM,.tuple _ _ (.cons _ _ _ _ (.bool true) (.cons _ _ _ _ (.int _ _) (.cons _ _ _ _ (.int _ _) .nil)))⟩;unfold Instr.next
     simp only[RB.at,q2,Nat.add_zero,Sem.run_bind,gZ,Result.andThen_ok];rw[if_pos (by rw[hsz];exact(g_ hc).1),Nh l q4 hc hlt];simp only[Sem.run_bind,fJ,Result.andThen_ok,Sem.run_pure]
    ·cases h
  ·cases h
 ·cases h
theorem Ca{x v:AV}(h:qq x s=some (v,s')):aF s s':=by
 unfold qq at h;split at h
 ·split at h
  ·rename_i hb
   split at h
   ·rename_i hm _
    split at h
    ·split at h
     ·cases h;exact(aF.note _ (.rd _ 0 1) ⟨_,hb,trivial⟩).trans (aF.note _ (.rd _ 0 1) ⟨_,hm,trivial⟩)
     ·cases h
    ·cases h
   ·cases h
  ·cases h
 ·cases h
theorem MR.find{ρ:Env}(p:Nat->Bool):∀{es:List ME} {l:List MapEntry} {e:ME},MR ρ es l->es.find? (fun e=>p e.born)=some e->∃e',l.find? (fun e=>p e.born)=some e'/\VR ρ e.k e'.key/\VR ρ e.v e'.val
 |[],l,e,h,hf=>by cases hf
 |x::es,l,e,h,hf=>by
  obtain⟨e',l',rfl,g1,g2,g3,g4⟩:=h.inv;rw[List.find?_cons] at hf;rw[List.find?_cons,<-g3];cases hb:p x.born with
  |true=>rw[hb] at hf;cases hf;exact⟨e',rfl,g1,g2⟩
  |false=>rw[hb] at hf;exact MR.find p g4 hf
theorem IK{x v:AV}{x':Value}(h:qq x s=some (v,s'))(hp:Pre ρ T s s' w)(hx:VR ρ x x'):fS P (Instr.entry x') ρ T s w v s':=by
 unfold qq at h;split at h
 ·rename_i b
  cases hx with
  |ptr _ _ r hbr=>
  split at h
  ·rename_i m since seen last hb
   split at h
   ·rename_i es clock EF hm hst
    split at h
    ·rename_i lH
     split at h
     ·rename_i e hf
      cases h;have RY:T b 0:=hp.o8 (.rd b 0 1) (List.mem_cons_of_mem _ (List.mem_cons_self ..)) (fY hp.wf hb) b 0 ⟨rfl,n_,Nat.one_pos⟩;have IL:T m 0:=hp.o8 (.rd m 0 1) (List.mem_cons_self ..) (fY hp.wf hm) m 0 ⟨rfl,n_,Nat.one_pos⟩;obtain⟨r0,m',q1,q2,q3,rm,q5,q6⟩:=hp.good.sat b _ hb ⟨0,RY⟩;subst q6;have:r0=r:=i_ (q1.symm.trans hbr);subst this;obtain⟨r1,l,p1,p2,p3⟩:=hp.good.sat m _ hm ⟨0,IL⟩;have:r1=rm:=i_ (p1.symm.trans q5);subst this;have gZ:(getObj r0.blk).run P w= .ok (.mapIter (some r1.blk) since seen.toArray last) w:=by simp[getObj,Sem.run,q3]
      obtain⟨e',h1,h2,h3⟩:=MR.find (fun n=>n==EF) p3 hf;refine⟨ρ,w,.tuple #[e'.key,e'.val],?_,Post.same hp.good rfl rfl (Still.refl w),.tuple _ _ (.cons _ _ _ _ h2 (.cons _ _ _ _ h3 .nil))⟩;have Nu:seen.toArray.back? =some EF:=by rw[List.back?_toArray];exact hst
      have hfd:l.find? (fun e=>e.born==EF)=some e':=by rw[<-Array.find?_toList];exact h1
      unfold Instr.entry;simp only[RB.at,q2,Nat.add_zero,Sem.run_bind,gZ,Result.andThen_ok,Nu,MapKept.run_getObj_map p2,lH];simp[hfd]
     ·cases h
    ·cases h
   ·cases h
  ·cases h
 ·cases h
end
section
variable {P:Program} {ρ:Env} {T:Nat->Nat->Prop} {s s':St} {w w':World}
theorem xV{ts:Array TypeId}{ty:TypeId}{x v:AV}{x':Value}(h:i7 [x]=some v)(hp:Pre ρ T s s w)(hx:VR ρ x x'):fS P (Builtin.unsafeSliceData_ ts ty #[x']) ρ T s w v s:=by
 unfold i7 at h;split at h
 ·rename_i he
  cases he;cases h;cases hx;exact fS.pure hp rfl .kK
 ·rename_i b off len mc es he
  cases he;split at h
  ·rename_i hl
   cases h;cases hx with
   |slice _ _ _ _ _ r ad cap hb h1 h2 h3=>
   have hc:cap≠0:=by omega
   obtain⟨had,_⟩:=h3.resolve_left hc;subst had;exact fS.pure hp (Lib.run_unsafeSliceData_row w ts ty _ _ _ hc) (.ptr b off r hb)
  ·cases h
 ·cases h
theorem xW{e:TypeId}(hc:P.cellsOf e=1)(count off n:Nat)(hn:off+n<=count):liesAt P P.depth e count off e n=true:=by
 have hd:P.depth=(2*(P.types.size+Made.depth)+1)+1:=rfl;rw[hd];simp only[liesAt,Bool.or_eq_true];left;rw[hd];simp[rowAt,hc,hn,sameLayout,Nat.mod_one]
theorem qF:∀(xs:List Int) (a:Addr) (acc:ByteArray),(∀(j:Nat) x,xs[j]? =some x->w.cell? (a.add j)=some (.int .u8 x))->
 (loadBytes a acc xs.length).run P w= .ok ⟨acc.data++(xs.map fun n=>UInt8.ofNat n.toNat).toArray⟩ w
 |[],a,acc,_=>by simp[loadBytes]
 |x::l,a,acc,h=>by
  have h0:w.cell? a=some (.int .u8 x):=by
   have:=h 0 x rfl;simpa[Addr.add] using this
  have ih:=qF l (a.add 1) (acc.push x.toNat.toUInt8) (fun j y hy=>by
   have:=h (j+1) y (by simpa using hy)
   have e:(a.add 1).add j=a.add (j+1):=by
    unfold Addr.add;by_cases hj:j=0
    ·subst hj;simp
    ·simp[hj];omega
   rw[e];exact this)
  simp only[List.length_cons,loadBytes,Sem.run_bind,run_load,h0,Result.andThen];rw[ih];congr 1;apply ByteArray.ext;simp[ByteArray.push]
theorem Cb{t:TypeId}{args:List AV}{v:AV}(h:ju P t args s=some (v,s')):aF s s':=by
 unfold ju at h;split at h
 ·split at h
  ·cases h;exact aF.refl _
  ·cases h
 ·split at h
  ·rename_i t0 cs0 hu hb
   split at h
   ·split at h
    ·rename_i cs s1 hr
     split at h
     ·cases h
      obtain⟨e1,m1⟩:=eL hr;refine m1.trans (aF.cv _ _ _ ⟨.cells t0 cs0,?_,trivial⟩);rw[e1];exact hb
     ·cases h
    ·cases h
   ·cases h
  ·cases h
 ·cases h
theorem IM{w:World}{B:Nat}{c:Array Value}{t:TypeId}{fr:Nat×Nat}(h:w.heap[B]? =some (.cells c t fr))(o n:Nat)(hn:n≠0):∃fr',Alt w (w.freeze ⟨B,o,none⟩ n) B (.cells c t fr'):=by
 unfold World.freeze;rw[if_neg hn];obtain⟨lo,hi⟩:=fr;refine⟨if lo==hi then(o,o+n) else(min lo o,max hi (o+n)),rfl,rfl,rfl,by simp,?_,fun B' hB=> ?_⟩
 ·simp[Array.getElem?_modify,h]
 ·simp[Array.getElem?_modify,Ne.symm hB]
theorem IP{pt it ty:TypeId}{x y v:AV}{x' y':Value}(h:ju P pt [x,y] s=some (v,s'))(hp:Pre ρ T s s' w)(hx:VR ρ x x')(hy:VR ρ y y'):fS P (Builtin.unsafeString_ #[pt,it] ty #[x',y']) ρ T s w v s':=by
 unfold ju at h;split at h
 ·rename_i n he
  cases he;split at h
  ·rename_i hn
   cases h;subst hn;cases hx;cases hy;exact fS.pure hp (Lib.run_unsafeString_none (P:=P) w pt it ty none) (VR.string ByteArray.empty)
  ·cases h
 ·rename_i b off n he
  cases he;split at h
  ·rename_i e t0 cs0 hu hb
   split at h
   ·rename_i hc
    obtain⟨c1,c2,c3,c4⟩:=hc;subst c1;split at h
    ·rename_i cs s1 hr
     split at h
     ·rename_i l hl
      cases h;cases hx with
      |ptr _ _ r hbr=>
      cases hy;obtain⟨e1,m1⟩:=eL hr;have hb1:s1.heap.get b=some (.cells t0 cs0):=by rw[e1];exact hb
      have m2:aF s1 ((s1.put b .dead).note (.all b)):=aF.cv _ _ _ ⟨_,hb1,trivial⟩;obtain⟨vs,h1,h2,h3⟩:=wN hr (hp.first m2) hbr;obtain⟨xs,x1,x2,x3,x4⟩:=rO hl h2;have hT:∃i,T b i:=⟨0,hp.o8 (.all b) (List.mem_cons_self ..) (fY hp.wf hb) b 0 rfl⟩
      obtain⟨r0,c,fr,q1,q2,q3,q4,q5,q6⟩:=hp.good.sat b _ hb hT;have:r0=r:=i_ (q1.symm.trans hbr);subst this;have x9:xs.length=n:=by rw[<-h1,x2,List.length_map]
      have hcsl:off+n<=cs0.length:=by
       have nL:=hr;unfold gy at nL;rw[hb] at nL;simp only at nL;split at nL
       ·rename_i l1 hcut
        obtain⟨_,z2⟩:=BO hcut;exact z2.resolve_left (by omega)
       ·cases nL
      have RZ:Post ρ T s w ρ s1 w:=Post.same hp.good (by rw[e1];rfl) (by rw[e1];rfl) (Still.refl w);have Xx:=hp.next m1 m2 RZ
      obtain⟨fr',halt⟩:=IM q2 (r0.base+off) n (by omega)
      have IQ:Post ρ (Tn T s.n s1.n) s1 w ρ ((s1.put b .dead).note (.all b)) (w.freeze ⟨r0.blk,r0.base+off,none⟩ n):=
       Post.alt (x':= .dead) Xx.good hb1 trivial (let⟨i,hi⟩:=hT;⟨i,.inl hi⟩) hbr halt trivial
      refine⟨ρ,_,.string ⟨(l.map UInt8.ofNat).toArray⟩,?_,RZ.trans m1 m2 IQ,.str l x3⟩;have GD:=qF (P:=P) (w:=w) xs (r0.at off) .empty (fun j x hj=>h3 j _ (by rw[x2,List.getElem?_map,hj];rfl));have kZ:w.shape? r0.blk=some (t0/2,c.size):=by simp[World.shape?,q2]
      have NN:=xW (P:=P) c2 (c.size/P.cellsOf (t0/2)) (r0.base+off) n (by
       rw[c2,Nat.div_one];have:=q4.1;omega)
      have h63:¬(9223372036854775807:Int)<(n:Int):=by omega
      have Eh:¬n=0:=by omega
      have LW:¬(n:Int)<0:=by omega
      have jcy:IntKind.i64.max=9223372036854775807:=rfl
      have Y':Builtin.unsafeString_ #[pt,it] ty #[.pointer (some (r0.at off)),.int .i64 (n:Int)]=
       (do
         let n<-asInt (.int .i64 (n:Int))
         if n<0 then runtimePanic (.error "unsafe.String: len out of range")
         if n>IntKind.i64.max then unsupported (.unsafePointer "String: a length above the largest int")
         if n=0 then pure (.string .empty)
         else if<-variablesAt (r0.at off) (<-elemOf pt) n.toNat then do
          let s<-loadBytes (r0.at off) .empty n.toNat
          freeze (r0.at off) n.toNat
          pure (.string s)
         else unsupported (.unsafePointer "String: not so many bytes at ptr")):=rfl
      show(Builtin.unsafeString_ #[pt,it] ty #[.pointer (some (r0.at off)),.int .i64 (n:Int)]).run P w=_
      rw[Y'];rw[x9] at GD;have hat:(r0.at off).off=r0.base+off:=rfl;have jcz:(r0.at off).block=r0.blk:=rfl;rw[x4] at GD;simp[asInt,asIntOf,jcy,h63,LW,Eh,variablesAt,kZ,elemOf,run_underlying hu,NN,GD,hat,jcz];rfl
     ·cases h
    ·cases h
   ·cases h
  ·cases h
 ·cases h
end
end Go.Proofs.YtpohlhkgbmdieaaGreatDoor.Rk
