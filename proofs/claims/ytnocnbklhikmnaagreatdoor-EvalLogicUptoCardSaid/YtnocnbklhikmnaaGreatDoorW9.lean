/- Part 9 of the proof. -/
import Derived.Test.YtnocnbklhikmnaaGreatDoorW7
import Derived.Laws.Append
import Derived.Room.Entries
import Derived.MapKept
import Derived.Laws.Tables
set_option linter.unusedVariables false
set_option maxRecDepth 1000000
set_option maxHeartbeats 16000000
namespace Go.Proofs.YtnocnbklhikmnaaGreatDoor.Rk
open Go
def MR(ρ:Env)(es:List ME)(l:List MapEntry):Prop:=VRL ρ (es.map (·.k)) (l.map (·.key))/\VRL ρ (es.map (·.v)) (l.map (·.val))/\es.map (·.born)=l.map (·.born)
theorem MR.nil{ρ:Env}:MR ρ [] []:=⟨.nil,.nil,rfl⟩
theorem MR.cons{ρ:Env}{e:ME}{e':MapEntry}{es:List ME}{l:List MapEntry}(h1:VR ρ e.k e'.key)(h2:VR ρ e.v e'.val)(h3:e.born=e'.born)(h:MR ρ es l):MR ρ (e::es) (e'::l):=
 ⟨.cons _ _ _ _ h1 h.1,.cons _ _ _ _ h2 h.2.1,by simp[h3,h.2.2]⟩
theorem MR.inv{ρ:Env}{e:ME}{es:List ME}{l:List MapEntry}(h:MR ρ (e::es) l):∃e' l',l=e'::l'/\VR ρ e.k e'.key/\VR ρ e.v e'.val/\e.born=e'.born/\MR ρ es l':=by
 obtain⟨h1,h2,h3⟩:=h;cases l with
 |nil=>cases h1
 |cons e' l'=>
  simp only[List.map_cons] at h1 h2 h3;cases h1 with
  |cons _ _ _ _ a b=>cases h2 with
   |cons _ _ _ _ c d=>
    simp only[List.cons.injEq] at h3;exact⟨e',l',rfl,a,c,h3.1,b,d,h3.2⟩
theorem MR.inv_nil{ρ:Env}{l:List MapEntry}(h:MR ρ [] l):l=[]:=by
 cases l with
 |nil=>rfl
 |cons e l=>cases h.1
theorem MR.len{ρ:Env}{es:List ME}{l:List MapEntry}(h:MR ρ es l):l.length=es.length:=by
 have:=h.1.length;simpa using this
theorem MR.filter{ρ:Env}(p:Nat->Bool):∀{es:List ME} {l:List MapEntry},MR ρ es l->MR ρ (es.filter fun e=>p e.born) (l.filter fun e=>p e.born)
 |[],l,h=>by rw[h.inv_nil];exact .nil
 |e::es,l,h=>by
  obtain⟨e',l',rfl,h1,h2,h3,h4⟩:=h.inv;have ih:=MR.filter p h4;rw[List.filter_cons,List.filter_cons,h3];cases p e'.born
  ·simpa using ih
  ·simpa using ih.cons h1 h2 h3
theorem MR.any{ρ:Env}(p:Nat->Bool){es:List ME}{l:List MapEntry}(h:MR ρ es l):es.any (fun e=>p e.born)=l.any (fun e=>p e.born):=by
 have e1:es.any (fun e=>p e.born)=(es.map (·.born)).any p:=by rw[List.any_map];rfl
 have e2:l.any (fun e=>p e.born)=(l.map (·.born)).any p:=by rw[List.any_map];rfl
 rw[e1,e2,h.2.2]
theorem MR.append{ρ:Env}:∀{es:List ME} {l:List MapEntry} {e:ME} {e':MapEntry},MR ρ es l->VR ρ e.k e'.key->VR ρ e.v e'.val->e.born=e'.born->MR ρ (es++[e]) (l++[e'])
 |[],l,e,e',h,h1,h2,h3=>by rw[h.inv_nil];exact .cons h1 h2 h3 .nil
 |x::es,l,e,e',h,h1,h2,h3=>by
  obtain⟨x',l',rfl,g1,g2,g3,g4⟩:=h.inv;exact .cons g1 g2 g3 (MR.append g4 h1 h2 h3)
theorem MR.modify{ρ:Env}{x:AV}{x' k':Value}(hx:VR ρ x x'):∀{es:List ME} {l:List MapEntry} (i:Nat),MR ρ es l->(∀e',l[i]? =some e'->e'.key=k')->MR ρ (es.modify i fun e=>{e with v:=x}) (l.modify i fun e=>{e with key:=k',val:=x'})
 |[],l,i,h,_=>by rw[h.inv_nil];simpa using MR.nil
 |e::es,l,0,h,hk=>by
  obtain⟨e',l',rfl,g1,g2,g3,g4⟩:=h.inv;have:=hk e' rfl;simp only[List.modify_zero_cons];exact .cons (by rw[<-this];exact g1) hx g3 g4
 |e::es,l,i+1,h,hk=>by
  obtain⟨e',l',rfl,g1,g2,g3,g4⟩:=h.inv;simp only[List.modify_succ_cons];exact .cons g1 g2 g3 (MR.modify hx i g4 (fun y hy=>hk y (by simpa using hy)))
section
variable {P:Program} {ρ:Env} {T:Nat->Nat->Prop} {s s':St} {w w':World}
theorem ba_beq(l k:List Nat)(hl:∀x∈l,x<256)(hk:∀x∈k,x<256):((⟨(l.map UInt8.ofNat).toArray⟩:ByteArray)==⟨(k.map UInt8.ofNat).toArray⟩)=decide (l=k):=by
 show((l.map UInt8.ofNat).toArray==(k.map UInt8.ofNat).toArray)=decide (l=k)
 rw[Bool.eq_iff_iff];simp[map_ofNat_inj hl hk]
theorem run_array1{t e:TypeId}{x y:Value}{xs ys:Array Value}{n:Nat}{b:Bool}(hu:P.underlying t=some (.array 1 e))(hs:szOf P e=some 1)(hx:(part e xs 0).run P w= .ok x w)(hy:(part e ys 0).run P w= .ok y w)(h:(Op.equalIn n e x y).run P w= .ok b w):
 (Op.equalIn (n+1) t (.agg xs) (.agg ys)).run P w= .ok b w:=by
 conv=>lhs;unfold Op.equalIn
 simp only[Sem.run_bind,run_underlying hu,Result.andThen_ok,run_szOf hs];simp only[Std.Legacy.Range.forIn_eq_forIn_range',Std.Legacy.Range.size,Nat.sub_zero,Nat.add_one_sub_one,Nat.div_one];simp only[List.range'_succ,List.range'_zero,List.forIn_cons,List.forIn_nil,Nat.zero_mul,Sem.run_bind,hx,hy,h,Result.andThen_ok];cases b<;>simp
theorem cellOk_noagg{d:TypeDesc}{a:List AV}(h:cellOk d (.agg a)=true):False:=by cases d<;>cases h
theorem same_cell{d:TypeDesc}{k:AV}{k':Value}(hk:cellOk d k=true)(hkk:VR ρ k k'):∀n,Instr.sameBits n k' k'=true:=by
 intro n;cases hkk<;>first|(cases d<;>cases hk;done)|skip
 ·cases n<;>simp[Instr.sameBits]
 ·cases n<;>simp[Instr.sameBits]
 ·rename_i lk hlk
  have:=ba_beq lk lk hlk hlk;cases n<;>simp[Instr.sameBits,this]
theorem same_cells(n:Nat):∀{fs:List Field} {cs:List AV} {i:Nat} {cs':List Value},cellsOk P fs cs i=true->VRL ρ cs cs'->((cs'.zip cs').all fun(x,y)=>Instr.sameBits n x y)=true
 |[],[],i,cs',hk,hx=>by cases hx;rfl
 |[],_::_,i,cs',hk,hx=>by cases hk
 |_::_,[],i,cs',hk,hx=>by cases hk
 |f::fs,c::cs,i,cs',hk,hx=>by
  cases hx with
  |cons _ v _ vs g1 g2=>
   simp only[cellsOk,Bool.and_eq_true,bne_iff_ne,ne_eq,decide_eq_true_eq] at hk;obtain⟨⟨⟨k1,k2⟩,k3⟩,k4⟩:=hk;cases hu:P.underlying f.type with
   |none=>rw[hu] at k3;cases k3
   |some d=>
    rw[hu] at k3;simp only[List.zip_cons_cons,List.all_cons,Bool.and_eq_true];exact⟨same_cell k3 g1 n,same_cells n k4 g2⟩
theorem same_key{kt:TypeId}{d:TypeDesc}{k:AV}{k':Value}(hk:keyOk P kt d k=true)(hkk:VR ρ k k'):Instr.sameBits 10000 k' k'=true:=by
 unfold keyOk at hk;split at hk
 ·simp only[Bool.and_eq_true,Bool.not_eq_true'] at hk
  cases hkk with
  |agg _ xs hx=>
  show(xs.size==xs.size&&(xs.toList.zip xs.toList).all fun(x,y)=>Instr.sameBits 9999 x y)=true
  rw[same_cells 9999 hk.2 hx];simp
 ·rename_i el c
  simp only[Bool.and_eq_true,decide_eq_true_eq] at hk;cases hu:P.underlying el with
  |none=>rw[hu] at hk;cases hk.2
  |some de=>
   rw[hu] at hk;cases hkk with
   |agg _ xs hx=>
   show(xs.size==xs.size&&(xs.toList.zip xs.toList).all fun(x,y)=>Instr.sameBits 9999 x y)=true
   generalize xs.toList=xl at hx;cases hx with
   |cons _ v _ vs a b=>
    cases b;simp[same_cell hk.2 a 9999]
 ·exact same_cell hk hkk _
theorem keyEq_run{kt:TypeId}{d:TypeDesc}{k y:AV}{k' y':Value}{b:Bool}(hd:P.underlying kt=some d)(hk:keyOk P kt d k=true)(h:keyEq k y=some b)(hkk:VR ρ k k')(hy:VR ρ y y')(w:World):
 (Op.equal kt k' y').run P w= .ok b w/\(Instr.sameNow d k' y'=some b\/Instr.sameNow d k' y'=none)/\(b=true->y'=k'):=by
 show(Op.equalIn (9998+2) kt k' y').run P w= .ok b w/\_
 unfold keyEq at h;split at h
 ·rename_i a c
  cases hkk with
  |agg _ xs hx1=>cases hy with
   |agg _ ys hy1=>
    have hn:Instr.sameNow d (.agg xs) (.agg ys)=none:=by cases d<;>rfl
    refine(fun⟨h1,h2⟩=>⟨h1,.inr hn,h2⟩:(_/\_)->_) ?_
    unfold keyOk at hk;split at hk
    ·rename_i fs cs he
     cases he;simp only[Bool.and_eq_true,Bool.not_eq_true'] at hk;obtain⟨h1,h2⟩:=run_structEq (n:=9998) hd hk.1 hk.2 h hx1 hy1 w;exact⟨h1,fun h=>by rw[h2 h]⟩
    ·rename_i e cc he
     cases he;simp only[Bool.and_eq_true,decide_eq_true_eq] at hk;cases hu:P.underlying e with
     |none=>rw[hu] at hk;cases hk.2
     |some de=>
      rw[hu] at hk;cases c with
      |nil=>cases h
      |cons c2 c3=>
       obtain⟨x1,xr,ex,g1,g2⟩:∃x1 xr,xs.toList=x1::xr/\VR ρ cc x1/\VRL ρ [] xr:=by
        generalize xs.toList=xl at hx1;cases hx1 with
        |cons _ v _ vs a b=>exact⟨v,vs,rfl,a,b⟩
       obtain⟨y1,yr,ey,q1,q2⟩:∃y1 yr,ys.toList=y1::yr/\VR ρ c2 y1/\VRL ρ c3 yr:=by
        generalize ys.toList=yl at hy1;cases hy1 with
        |cons _ v _ vs a b=>exact⟨v,vs,rfl,a,b⟩
       have p1:=part_cell hu (cellOk_agg hk.2) (show xs[0]? =some x1 by rw[<-Array.getElem?_toList,ex];rfl) w;have p2:=part_cell hu (cellOk_agg hk.2) (show ys[0]? =some y1 by rw[<-Array.getElem?_toList,ey];rfl) w;unfold cellsEq at h;cases hc:cellEq cc c2 with
       |none=>rw[hc] at h;cases h
       |some b0=>
        rw[hc] at h;obtain⟨r1,_,r2⟩:=cellEq_ok (n:=9998) hu hk.2 hc g1 q1 w;have hr:=run_array1 hd hk.1 p1 p2 r1;cases b0 with
        |false=>cases h;exact⟨hr,fun h=>by cases h⟩
        |true=>
         cases c3 with
         |cons _ _=>cases h
         |nil=>
          cases h;refine⟨hr,fun _=> ?_⟩;cases g2;cases q2;have:ys=xs:=Array.ext' (by rw[ex,ey,r2 rfl]);rw[this]
    ·exact(cellOk_noagg hk).elim
 ·rename_i hn
  have hkc:cellOk d k=true:=by
   unfold keyOk at hk;split at hk
   ·unfold cellEq at h
    split at h<;>first|(cases h;done)|cases‹AV.agg _=_›
   ·unfold cellEq at h
    split at h<;>first|(cases h;done)|cases‹AV.agg _=_›
   ·exact hk
  obtain⟨h1,h2,h3⟩:=cellEq_ok (n:=9999) hd hkc h hkk hy w;exact⟨h1,.inl h2,h3⟩
def Fnd(P:Program)(w:World)(kt:TypeId)(d:TypeDesc)(k':Value)(l:List MapEntry)(i:Nat)(q:Option (Nat×Value)):Prop:=(Instr.findAsking kt k' l i).run P w= .ok q w/\(Instr.findNow d k' l i=some q\/Instr.findNow d k' l i=none)
theorem findK_ok{kt:TypeId}{d:TypeDesc}{k:AV}{k':Value}(hd:P.underlying kt=some d)(hk:keyOk P kt d k=true)(hkk:VR ρ k k')(w:World):∀{es:List ME} {l:List MapEntry} (i:Nat) {r:Option (Nat×AV)},MR ρ es l->findK k es i=some r->
 (r=none/\Fnd P w kt d k' l i none)\/∃j v e',r=some (j,v)/\i<=j/\l[j-i]? =some e'/\Fnd P w kt d k' l i (some (j,e'.val))/\e'.key=k'/\VR ρ v e'.val
 |[],l,i,r,h,hf=>by
  simp[findK] at hf;subst hf;rw[h.inv_nil];exact .inl ⟨rfl,rfl,.inl rfl⟩
 |e::es,l,i,r,h,hf=>by
  obtain⟨e',l',rfl,g1,g2,g3,g4⟩:=h.inv;unfold findK at hf;split at hf
  ·rename_i hb
   cases hf;obtain⟨h1,h2,h3⟩:=keyEq_run hd hk hb hkk g1 w;refine .inr ⟨i,e.v,e',rfl,n_,by simp,⟨by simp[Instr.findAsking,h1],?_⟩,h3 rfl,g2⟩;rcases h2 with h2|h2
   ·exact .inl (by simp[Instr.findNow,h2])
   ·exact .inr (by simp[Instr.findNow,h2])
  ·rename_i hb
   obtain⟨h1,h2,_⟩:=keyEq_run hd hk hb hkk g1 w
   have hgo:∀q,Fnd P w kt d k' l' (i+1) q->Fnd P w kt d k' (e'::l') i q:=fun q ⟨a1,a2⟩=>⟨by simp[Instr.findAsking,h1,a1],by
    rcases h2 with h2|h2
    ·simpa[Instr.findNow,h2] using a2
    ·exact .inr (by simp[Instr.findNow,h2])⟩
   rcases findK_ok hd hk hkk w (i+1) g4 hf with⟨h2,h3⟩|⟨j,v,x,h2,h3,h4,h5,h6,h7⟩
   ·exact .inl ⟨h2,hgo _ h3⟩
   ·refine .inr ⟨j,v,x,h2,by omega,?_,hgo _ h5,h6,h7⟩
    rw[show j-i=(j-(i+1))+1 by omega,List.getElem?_cons_succ];exact h4
  ·cases hf
theorem ck_cell{t:TypeId}{d:TypeDesc}{k:AV}{k':Value}{n:Nat}(hd:P.underlying t=some d)(hk:cellOk d k=true)(hkk:VR ρ k k')(e:Bool)(w:World):(Instr.checkKey e (n+1) t k').run P w= .ok () w:=by
 conv=>lhs;unfold Instr.checkKey
 rw[Sem.run_bind,run_underlying hd];cases d<;>simp[cellOk] at hk<;>cases hkk<;>first|rfl|simp at hk
theorem ck_cells{n:Nat}{xs:Array Value}(e:Bool)(w:World):∀{fs:List Field} {cs:List AV} {i:Nat} {cs':List Value},cellsOk P fs cs i=true->VRL ρ cs cs'->(∀j v,cs'[j]? =some v->xs[i+j]? =some v)->
 (forIn (m:=Sem) fs PUnit.unit (fun f (_:PUnit)=>if f.name≠ "_" then do let v<-part f.type xs f.offset;Instr.checkKey e (n+1) f.type v;pure (ForInStep.yield PUnit.unit) else pure (ForInStep.yield PUnit.unit))).run P w= .ok PUnit.unit w
 |[],[],i,cs',hk,hx,h1=>rfl
 |[],_::_,i,cs',hk,hx,h1=>by cases hk
 |_::_,[],i,cs',hk,hx,h1=>by cases hk
 |f::fs,c::cs,i,cs',hk,hx,h1=>by
  cases hx with
  |cons _ v _ vs g1 g2=>
   simp only[cellsOk,Bool.and_eq_true,bne_iff_ne,ne_eq,decide_eq_true_eq] at hk;obtain⟨⟨⟨k1,k2⟩,k3⟩,k4⟩:=hk;cases hu:P.underlying f.type with
   |none=>rw[hu] at k3;cases k3
   |some d=>
    rw[hu] at k3;have p1:=part_cell hu (cellOk_agg k3) (h1 0 v rfl) w;rw[Nat.add_zero] at p1;have ih:=ck_cells (n:=n) e w k4 g2 (fun j v hv=>by rw[show i+1+j=i+(j+1) by omega];exact h1 (j+1) v (by simpa using hv));rw[List.forIn_cons,if_pos k1,k2];simp only[Sem.run_bind,p1,Result.andThen_ok,ck_cell hu k3 g1 e w,Sem.run_pure];exact ih
theorem run_ck{d:TypeDesc}{kt:TypeId}{k:AV}{k':Value}(hd:P.underlying kt=some d)(hk:keyOk P kt d k=true)(hkk:VR ρ k k')(e:Bool)(w:World):(Instr.checkKey e 10000 kt k').run P w= .ok () w:=by
 unfold keyOk at hk;split at hk
 ·rename_i fs cs
  simp only[Bool.and_eq_true,Bool.not_eq_true'] at hk;cases hkk with
  |agg _ xs hx=>
  show(Instr.checkKey e (9998+1+1) kt (.agg xs)).run P w= .ok () w
  conv=>lhs;unfold Instr.checkKey
  rw[Sem.run_bind,run_underlying hd];simp only[Result.andThen_ok];rw[<-Array.forIn_toList];rw[Sem.run_bind];have:=ck_cells (n:=9998) e w hk.2 hx (fun j v hv=>by simpa using hv);rw[this];rfl
 ·rename_i el c
  simp only[Bool.and_eq_true,decide_eq_true_eq] at hk;cases hu:P.underlying el with
  |none=>rw[hu] at hk;cases hk.2
  |some de=>
   rw[hu] at hk;cases hkk with
   |agg _ xs hx=>
   obtain⟨x1,xr,ex,g1,g2⟩:∃x1 xr,xs.toList=x1::xr/\VR ρ c x1/\VRL ρ [] xr:=by
    generalize xs.toList=xl at hx;cases hx with
    |cons _ v _ vs a b=>exact⟨v,vs,rfl,a,b⟩
   have p1:=part_cell hu (cellOk_agg hk.2) (show xs[0]? =some x1 by rw[<-Array.getElem?_toList,ex];rfl) w;show(Instr.checkKey e (9998+1+1) kt (.agg xs)).run P w= .ok () w
   conv=>lhs;unfold Instr.checkKey
   simp only[Sem.run_bind,run_underlying hd,Result.andThen_ok];simp only[Std.Legacy.Range.forIn_eq_forIn_range',Std.Legacy.Range.size,Nat.sub_zero,Nat.add_one_sub_one,Nat.div_one];simp[List.range'_succ,List.range'_zero,List.forIn_cons,List.forIn_nil,run_szOf hk.1,p1,ck_cell hu hk.2 g1 e w]
 ·exact ck_cell hd hk hkk e w
theorem run_fk{d:TypeDesc}{kt:TypeId}{k':Value}{l:List MapEntry}{r:Option (Nat×Value)}(hd:P.underlying kt=some d)(h:Fnd P w kt d k' l 0 r):(Instr.findKey kt k' l).run P w= .ok r w:=by
 obtain⟨h1,h2⟩:=h;rcases h2 with h2|h2
 ·simp[Instr.findKey,run_underlying hd,h2]
 ·simp[Instr.findKey,run_underlying hd,h2,h1]
theorem mapA_mono{x:AV}{es:List ME}{s1:St}(h:mapA x s=some (es,s1)):Mono s s1/\s1.heap=s.heap/\s1.n=s.n:=by
 unfold mapA at h;split at h
 ·cases h;exact⟨Mono.refl _,rfl,rfl⟩
 ·split at h
  ·rename_i hb
   cases h;exact⟨Mono.note _ _ ⟨_,hb,trivial⟩,rfl,rfl⟩
  ·cases h
 ·cases h
theorem mapA_ok{x:AV}{x':Value}{es:List ME}{s1:St}(h:mapA x s=some (es,s1))(hp:Pre ρ T s s1 w)(hx:VR ρ x x'):
 (x'= .map none/\es=[])\/∃r l clock,x'= .map (some r)/\w.heap[r]? =some (.map l clock)/\MR ρ es l.toList:=by
 unfold mapA at h;split at h
 ·cases h;cases hx;exact .inl ⟨rfl,rfl⟩
 ·rename_i b
  split at h
  ·rename_i es0 clock hb
   cases h;cases hx with
   |map b r hbr=>
   have hT:T b 0:=hp.cov (.rd b 0 1) (List.mem_cons_self ..) (lt_n hp.wf hb) b 0 ⟨rfl,n_,Nat.one_pos⟩;obtain⟨r0,l,q1,q2,q3⟩:=hp.good.sat b _ hb ⟨0,hT⟩;have:r0=r:=Option.some.inj (q1.symm.trans hbr);subst this;exact .inr ⟨r0.blk,l,clock,rfl,q2,q3⟩
  ·cases h
 ·cases h
theorem opLookup_mono{t:TypeId}{x i v:AV}{ok:Bool}(h:opLookup P t x i ok s=some (v,s')):Mono s s':=by
 unfold opLookup at h;split at h
 ·split at h
  ·rename_i hm
   obtain⟨h1,h2,h3⟩:=mapA_mono hm;split at h
   ·split at h
    ·cases h;exact h1
    ·split at h
     ·cases h;exact h1
     ·cases h
    ·cases h
   ·cases h
  ·cases h
 ·cases h
theorem opLookup_ok{t:TypeId}{x i v:AV}{x' i':Value}{ok:Bool}(h:opLookup P t x i ok s=some (v,s'))(hp:Pre ρ T s s' w)(hx:VR ρ x x')(hi:VR ρ i i'):OK1 P (Instr.lookup t x' i' ok) ρ T s w v s':=by
 unfold opLookup at h;split at h
 ·rename_i kt e hu
  split at h
  ·rename_i d es s1 hd hm
   obtain⟨m1,m2,m3⟩:=mapA_mono hm;split at h
   ·rename_i hk
    have hs1:s1=s':=by
     split at h
     ·cases h;rfl
     ·split at h
      ·cases h;rfl
      ·cases h
     ·cases h
    subst hs1;have hpost:Post ρ T s w ρ s1 w:=Post.same hp.good m2 m3 (Still.refl w)
    have hes:∃l:Array MapEntry,MR ρ es l.toList/\((x'= .map none/\l=#[])\/∃r clock,x'= .map (some r)/\w.heap[r]? =some (.map l clock)):=by
     rcases mapA_ok hm hp hx with⟨rfl,rfl⟩|⟨r,l,clock,rfl,h2,h3⟩
     ·exact⟨#[],MR.nil,.inl ⟨rfl,rfl⟩⟩
     ·exact⟨l,h3,.inr ⟨r,clock,rfl,h2⟩⟩
    obtain⟨l,hmr,hx'⟩:=hes;split at h
    ·rename_i j v0 hf
     cases h;rcases findK_ok hd hk hi w 0 hmr hf with⟨h2,_⟩|⟨j',v',e',h2,h3,h4,h5,h6,h7⟩
     ·cases h2
     ·cases h2
      refine⟨ρ,w,if ok then .tuple #[e'.val,.bool true] else e'.val,?_,hpost,?_⟩
      ·rcases hx' with⟨rfl,rfl⟩|⟨r,clock,rfl,hr⟩
       ·simp at h4
       ·unfold Instr.lookup
        simp only[Sem.run_bind,run_underlying hu,Result.andThen_ok,MapKept.run_getObj_map hr,Sem.run_pure,run_ck hd hk hi,run_fk hd h5]
      ·cases ok
       ·exact h7
       ·exact .tuple _ _ (.cons _ _ _ _ h7 (.cons _ _ _ _ (.bool _) .nil))
    ·rename_i hf
     split at h
     ·rename_i z hz
      cases h;obtain⟨zv,hz1,_,hz3⟩:=run_zero (ρ:=ρ) hz w;rcases findK_ok hd hk hi w 0 hmr hf with⟨_,h3⟩|⟨j',v',e',h2,_⟩
      ·refine⟨ρ,w,if ok then .tuple #[zv,.bool false] else zv,?_,hpost,?_⟩
       ·rcases hx' with⟨rfl,rfl⟩|⟨r,clock,rfl,hr⟩
        ·unfold Instr.lookup
         simp only[Sem.run_bind,run_underlying hu,Result.andThen_ok,Sem.run_pure,run_ck hd hk hi,run_fk hd h3,hz1]
        ·unfold Instr.lookup
         simp only[Sem.run_bind,run_underlying hu,Result.andThen_ok,MapKept.run_getObj_map hr,Sem.run_pure,run_ck hd hk hi,run_fk hd h3,hz1]
       ·cases ok
        ·exact hz3
        ·exact .tuple _ _ (.cons _ _ _ _ hz3 (.cons _ _ _ _ (.bool _) .nil))
      ·cases h2
     ·cases h
    ·cases h
   ·cases h
  ·cases h
 ·cases h
theorem pmapOf_inv{x:AV}{b:Nat}{es:List ME}(h:pmapOf x s=some (b,es)):x= .map b/\s.heap.get b=some (.pmap es):=by
 unfold pmapOf at h;split at h
 ·split at h
  ·rename_i hb
   cases h;exact⟨rfl,hb⟩
  ·cases h
 ·cases h
theorem opLookupP_log{t:TypeId}{b:Nat}{es:List ME}{i v:AV}{ok:Bool}(h:opLookupP P t b es i ok s=some (v,s')):s'=s.note (.rd b 0 1):=by
 unfold opLookupP at h;split at h
 ·split at h
  ·split at h
   ·split at h
    ·cases h;rfl
    ·split at h
     ·cases h;rfl
     ·cases h
    ·cases h
   ·cases h
  ·cases h
 ·cases h
theorem opLookupP_mono{t:TypeId}{x:AV}{b:Nat}{es:List ME}{i v:AV}{ok:Bool}(hx:pmapOf x s=some (b,es))(h:opLookupP P t b es i ok s=some (v,s')):Mono s s':=by
 rw[opLookupP_log h];exact Mono.note _ _ ⟨_,(pmapOf_inv hx).2,trivial⟩
theorem findK_all{k:AV}:∀{es:List ME} (i:Nat),(es.all fun e=>(keyEq k e.k).isSome)=true->∃r,findK k es i=some r/\r.map (·.2)=((es.filter fun e=>keyEq k e.k==some true).head?).map (·.v)
 |[],i,_=>⟨none,rfl,rfl⟩
 |e::es,i,h=>by
  simp only[List.all_cons,Bool.and_eq_true] at h;cases he:keyEq k e.k with
  |none=>rw[he] at h;cases h.1
  |some b=>
   unfold findK;simp only[he];cases b with
   |true=>exact⟨_,rfl,by simp[he]⟩
   |false=>
    obtain⟨r,h1,h2⟩:=findK_all (i+1) h.2;exact⟨r,h1,by rw[h2];simp[he]⟩
theorem lookP_perm{k:AV}{es el:List ME}{r:Option AV}(h:lookP k es=some r)(hp:List.Perm el es):∃q,findK k el 0=some q/\q.map (·.2)=r:=by
 unfold lookP at h;split at h
 ·rename_i ha
  have ha':(el.all fun e=>(keyEq k e.k).isSome)=true:=by
   rw[List.all_eq_true] at ha⊢;exact fun x hx=>ha x (hp.mem_iff.1 hx)
  obtain⟨q,h1,h2⟩:=findK_all 0 ha';have hf:=hp.filter (fun e=>keyEq k e.k==some true);refine⟨q,h1,?_⟩;rw[h2];split at h
  ·rename_i hn
   cases h;rw[hn] at hf;rw[hf.eq_nil];rfl
  ·rename_i e hn
   cases h;rw[hn] at hf;rw[List.perm_singleton.1 hf];rfl
  ·cases h
 ·cases h
theorem MR.stamped{ρ:Env}:∀{el:List ME} {l:List MapEntry},VRL ρ (el.map (·.k)) (l.map (·.key))->VRL ρ (el.map (·.v)) (l.map (·.val))->∃el',MR ρ el' l/\∀k i,(findK k el' i).map (·.map (·.2))=(findK k el i).map (·.map (·.2))
 |[],[],_,_=>⟨[],.nil,fun _ _=>rfl⟩
 |[],_::_,h,_=>by cases h
 |_::_,[],h,_=>by cases h
 |e::el,x::l,h1,h2=>by
  simp only[List.map_cons] at h1 h2;cases h1 with
  |cons _ _ _ _ a b=>cases h2 with
   |cons _ _ _ _ c d=>
    obtain⟨el',g1,g2⟩:=MR.stamped b d;refine⟨⟨e.k,e.v,x.born⟩::el',g1.cons a c rfl,fun k i=> ?_⟩;unfold findK;cases keyEq k e.k with
    |none=>rfl
    |some b=>cases b<;>first|rfl|exact g2 k (i+1)
theorem opLookupP_ok{t:TypeId}{x:AV}{b:Nat}{es:List ME}{i v:AV}{x' i':Value}{ok:Bool}(hx0:pmapOf x s=some (b,es))(h:opLookupP P t b es i ok s=some (v,s'))(hp:Pre ρ T s s' w)(hx:VR ρ x x')(hi:VR ρ i i'):OK1 P (Instr.lookup t x' i' ok) ρ T s w v s':=by
 have hlog:=opLookupP_log h;subst hlog;obtain⟨rfl,hb⟩:=pmapOf_inv hx0;cases hx with
 |map _ r hbr=>
 have hT:T b 0:=hp.cov (.rd b 0 1) (List.mem_cons_self ..) (lt_n hp.wf hb) b 0 ⟨rfl,n_,Nat.one_pos⟩;obtain⟨r0,l,el,clock,q1,q2,q3,q4,q5⟩:=hp.good.sat b _ hb ⟨0,hT⟩;have:r0=r:=Option.some.inj (q1.symm.trans hbr);subst this;have hpost:Post ρ T s w ρ (s.note (.rd b 0 1)) w:=Post.same hp.good rfl rfl (Still.refl w);obtain⟨el',hmr,hfe⟩:=MR.stamped q4 q5;unfold opLookupP at h;split at h
 ·rename_i kt e hu
  split at h
  ·rename_i d hd
   split at h
   ·rename_i hk
    have fin:∀r1,lookP i es=some r1->∃q,findK i el' 0=some q/\q.map (·.2)=r1:=fun r1 hr1=>by
     obtain⟨q,g1,g2⟩:=lookP_perm hr1 q3;have:=hfe i 0;rw[g1] at this;cases hq:findK i el' 0 with
     |none=>rw[hq] at this;cases this
     |some q'=>
      rw[hq] at this;simp only[Option.map_some,Option.some.injEq] at this;exact⟨q',rfl,this.trans g2⟩
    split at h
    ·rename_i v0 hf
     obtain⟨q,g1,g2⟩:=fin _ hf;cases h;rcases findK_ok hd hk hi w 0 hmr g1 with⟨h2,_⟩|⟨j',v',e',h2,h3,h4,h5,h6,h7⟩
     ·rw[h2] at g2;cases g2
     ·rw[h2] at g2
      simp only[Option.map_some,Option.some.injEq] at g2;subst g2;refine⟨ρ,w,if ok then .tuple #[e'.val,.bool true] else e'.val,?_,hpost,?_⟩
      ·unfold Instr.lookup
       simp only[Sem.run_bind,run_underlying hu,Result.andThen_ok,MapKept.run_getObj_map q2,Sem.run_pure,run_ck hd hk hi,run_fk hd h5]
      ·cases ok
       ·exact h7
       ·exact .tuple _ _ (.cons _ _ _ _ h7 (.cons _ _ _ _ (.bool _) .nil))
    ·rename_i hf
     obtain⟨q,g1,g2⟩:=fin _ hf;split at h
     ·rename_i z hz
      cases h;obtain⟨zv,hz1,_,hz3⟩:=run_zero (ρ:=ρ) hz w;rcases findK_ok hd hk hi w 0 hmr g1 with⟨h2,h3⟩|⟨j',v',e',h2,_⟩
      ·refine⟨ρ,w,if ok then .tuple #[zv,.bool false] else zv,?_,hpost,?_⟩
       ·unfold Instr.lookup
        simp only[Sem.run_bind,run_underlying hu,Result.andThen_ok,MapKept.run_getObj_map q2,Sem.run_pure,run_ck hd hk hi,run_fk hd h3,hz1]
       ·cases ok
        ·exact hz3
        ·exact .tuple _ _ (.cons _ _ _ _ hz3 (.cons _ _ _ _ (.bool _) .nil))
      ·rw[h2] at g2;cases g2
     ·cases h
    ·cases h
   ·cases h
  ·cases h
 ·cases h
theorem opUpdate_mono{t:TypeId}{m k x:AV}(h:opUpdate P t m k x s=some s'):Mono s s':=by
 unfold opUpdate at h;split at h
 ·split at h
  ·rename_i hb
   split at h
   ·split at h
    ·cases h;exact Mono.put_note _ _ _ ⟨_,hb,trivial⟩
    ·cases h;exact Mono.put_note _ _ _ ⟨_,hb,trivial⟩
    ·cases h
   ·cases h
  ·cases h
 ·cases h
theorem alt_set{B:Nat}{o o':Obj}(h:w.heap[B]? =some o):Alt w {w with heap:=w.heap.setIfInBounds B o'} B o':=
 ⟨rfl,rfl,rfl,by simp,by have:=lt_of_some h;simp[this],fun B' hB=>by simp[Ne.symm hB]⟩
theorem setObj_run{B:Nat}{l:Array MapEntry}{c:Nat}{o':Obj}(h:w.heap[B]? =some (.map l c)):(setObj B o').run P w= .ok () {w with heap:=w.heap.setIfInBounds B o'}:=MapKept.run_setObj_map o' h
theorem opUpdate_ok{t:TypeId}{m k x:AV}{m' k' x':Value}(h:opUpdate P t m k x s=some s')(hp:Pre ρ T s s' w)(hm:VR ρ m m')(hk:VR ρ k k')(hx:VR ρ x x'):∃w',(Instr.mapUpdate t m' k' x').run P w= .ok () w'/\Post ρ T s w ρ s' w':=by
 unfold opUpdate at h;split at h
 ·rename_i kt et b hu
  split at h
  ·rename_i d es clock hd hb
   split at h
   ·rename_i hko
    cases hm with
    |map b r hbr=>
    split at h
    ·rename_i j v0 hf
     cases h;have hT:∀i,T b i:=fun i=>hp.cov (.all b) (List.mem_cons_self ..) (lt_n hp.wf hb) b i rfl;obtain⟨r0,l,q1,q2,q3⟩:=hp.good.sat b _ hb ⟨0,hT 0⟩;have:r0=r:=Option.some.inj (q1.symm.trans hbr);subst this;rcases findK_ok hd hko hk w 0 q3 hf with⟨h2,_⟩|⟨j',v',e',h2,h3,h4,h5,h6,h7⟩
     ·cases h2
     ·cases h2
      rw[Nat.sub_zero,Array.getElem?_toList] at h4;refine⟨_,?_,Post.alt hp.good hb trivial ⟨0,hT 0⟩ hbr (alt_set q2 (o':= .map (l.modify j fun e=>{e with key:=k',val:=x'}) clock)) ⟨r0,_,hbr,(alt_set q2).here,?_⟩⟩
      ·have hkey:(((l[j]?).map (·.key)).getD k')=k':=by rw[h4];exact h6
       have hst:(Instr.keyThatStays k' k').run P w= .ok k' w:=by
        have hsb:Instr.sameBits 10000 k' k'=true:=same_key hko hk;simp[Instr.keyThatStays,hsb]
       unfold Instr.mapUpdate;rw[Sem.run_bind,run_underlying hu];simp only[Result.andThen_ok,Sem.run_bind,MapKept.run_getObj_map q2,run_ck hd hko hk,run_fk hd h5,hkey,hst,setObj_run q2]
      ·have:=MR.modify hx j q3 (fun y hy=>by
        rw[Array.getElem?_toList,h4] at hy;cases hy;exact h6)
       rw[Array.toList_modify];exact this
    ·rename_i hf
     cases h;have hT:∀i,T b i:=fun i=>hp.cov (.all b) (List.mem_cons_self ..) (lt_n hp.wf hb) b i rfl;obtain⟨r0,l,q1,q2,q3⟩:=hp.good.sat b _ hb ⟨0,hT 0⟩;have:r0=r:=Option.some.inj (q1.symm.trans hbr);subst this;rcases findK_ok hd hko hk w 0 q3 hf with⟨_,h3⟩|⟨j',v',e',h2,_⟩
     ·refine⟨_,?_,Post.alt hp.good hb trivial ⟨0,hT 0⟩ hbr (alt_set q2 (o':= .map (l.push {key:=k',val:=x',born:=clock}) (clock+1))) ⟨r0,_,hbr,(alt_set q2).here,?_⟩⟩
      ·unfold Instr.mapUpdate
       rw[Sem.run_bind,run_underlying hu];simp only[Result.andThen_ok,Sem.run_bind,MapKept.run_getObj_map q2,run_ck hd hko hk,run_fk hd h3,setObj_run q2]
      ·rw[Array.toList_push]
       exact MR.append q3 hk hx rfl
     ·cases h2
    ·cases h
   ·cases h
  ·cases h
 ·cases h
theorem MR.erase{ρ:Env}:∀{es:List ME} {l:List MapEntry} (i:Nat),MR ρ es l->MR ρ (es.eraseIdx i) (l.eraseIdx i)
 |[],l,i,h=>by rw[h.inv_nil];simpa using MR.nil
 |e::es,l,0,h=>by
  obtain⟨e',l',rfl,g1,g2,g3,g4⟩:=h.inv;exact g4
 |e::es,l,i+1,h=>by
  obtain⟨e',l',rfl,g1,g2,g3,g4⟩:=h.inv;simp only[List.eraseIdx_cons_succ];exact .cons g1 g2 g3 (MR.erase i g4)
theorem unit_inv{x:Option St}{v:AV}(h:unit x=some (v,s')):x=some s'/\v=undefA:=by
 unfold unit at h;split at h
 ·cases h;exact⟨rfl,rfl⟩
 ·cases h
theorem opDelete_mono{t:TypeId}{m k:AV}(h:opDelete P t m k s=some s'):Mono s s':=by
 unfold opDelete at h;split at h
 ·split at h
  ·rename_i hb
   split at h
   ·split at h
    ·cases h;exact Mono.put_note _ _ _ ⟨_,hb,trivial⟩
    ·cases h;exact Mono.put_note _ _ _ ⟨_,hb,trivial⟩
    ·cases h
   ·cases h
  ·cases h
 ·cases h
theorem opDelete_ok{ts:Array TypeId}{t ty:TypeId}{m k:AV}{m' k':Value}(ht:ts[0]? =some t)(h:opDelete P t m k s=some s')(hp:Pre ρ T s s' w)(hm:VR ρ m m')(hk:VR ρ k k'):OK1 P (Builtin.delete_ ts ty #[m',k']) ρ T s w undefA s':=by
 unfold opDelete at h;split at h
 ·rename_i kt et b hu
  split at h
  ·rename_i d es clock hd hb
   split at h
   ·rename_i hko
    cases hm with
    |map b r hbr=>
    split at h
    ·rename_i j v0 hf
     cases h;have hT:∀i,T b i:=fun i=>hp.cov (.all b) (List.mem_cons_self ..) (lt_n hp.wf hb) b i rfl;obtain⟨r0,l,q1,q2,q3⟩:=hp.good.sat b _ hb ⟨0,hT 0⟩;have:r0=r:=Option.some.inj (q1.symm.trans hbr);subst this;rcases findK_ok hd hko hk w 0 q3 hf with⟨h2,_⟩|⟨j',v',e',h2,h3,h4,h5,h6,h7⟩
     ·cases h2
     ·cases h2
      refine⟨ρ,_,.tuple #[],?_,Post.alt hp.good hb trivial ⟨0,hT 0⟩ hbr (alt_set q2 (o':= .map (l.eraseIdxIfInBounds j) clock)) ⟨r0,_,hbr,(alt_set q2).here,?_⟩,.tuple _ _ .nil⟩
      ·unfold Builtin.delete_
       simp only[ht,List.getElem?_toArray,List.getElem?_cons_zero,List.getElem?_cons_succ,Sem.run_bind,run_underlying hu,Result.andThen_ok,MapKept.run_getObj_map q2,run_ck hd hko hk,run_fk hd h5,setObj_run q2,Sem.run_pure]
      ·rw[Array.toList_eraseIdxIfInBounds]
       exact MR.erase j q3
    ·rename_i hf
     cases h;have hT:∀i,T b i:=fun i=>hp.cov (.all b) (List.mem_cons_self ..) (lt_n hp.wf hb) b i rfl;obtain⟨r0,l,q1,q2,q3⟩:=hp.good.sat b _ hb ⟨0,hT 0⟩;have:r0=r:=Option.some.inj (q1.symm.trans hbr);subst this;rcases findK_ok hd hko hk w 0 q3 hf with⟨_,h3⟩|⟨j',v',e',h2,_⟩
     ·refine⟨ρ,_,.tuple #[],?_,Post.alt hp.good hb trivial ⟨0,hT 0⟩ hbr (alt_set q2 (o':= .map l clock)) ⟨r0,_,hbr,(alt_set q2).here,q3⟩,.tuple _ _ .nil⟩
      unfold Builtin.delete_;simp only[ht,List.getElem?_toArray,List.getElem?_cons_zero,List.getElem?_cons_succ,Sem.run_bind,run_underlying hu,Result.andThen_ok,MapKept.run_getObj_map q2,run_ck hd hko hk,run_fk hd h3,setObj_run q2,Sem.run_pure]
     ·cases h2
    ·cases h
   ·cases h
  ·cases h
 ·cases h
end
end Go.Proofs.YtnocnbklhikmnaaGreatDoor.Rk
