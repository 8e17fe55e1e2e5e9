/- Part 7 of the proof. -/
import Derived.Test.YtnocnbklhikmnaaGreatDoorW6
import Derived.Lib.SliceRun
import Derived.Laws.EntriesVeiled
set_option linter.unusedVariables false
set_option maxRecDepth 1000000
set_option maxHeartbeats 16000000
namespace Go.Proofs.YtnocnbklhikmnaaGreatDoor.Rk
open Go
theorem RB.at_add(r:RB)(off j:Nat):(r.at off).add j=r.at (off+j):=by
 unfold RB.at Addr.add;split
 ·rename_i h;subst h;rfl
 ·simp[Nat.add_assoc]
theorem cell_in{w:World}{B o:Nat}{c:Array Value}{t:TypeId}{fr:Nat×Nat}(h:w.heap[B]? =some (.cells c t fr)):w.cell? ⟨B,o,none⟩=c[o]? :=by
 simp[World.cell?,h]
theorem setL_ok:∀{cs:List AV} {off:Nat} {vs r:List AV},setL cs off vs=some r->r.length=cs.length/\(∀i,r[i]? =if off<=i/\i<off+vs.length then vs[i-off]?else cs[i]?)/\(vs=[]\/off+vs.length<=cs.length)
 |cs,off,[],r,h=>by
  simp[setL] at h;subst h;exact⟨rfl,fun i=>by rw[if_neg (by simp only[List.length_nil];omega)],.inl rfl⟩
 |[],off,v::vs,r,h=>by cases off<;>simp[setL] at h
 |c::cs,0,v::vs,r,h=>by
  unfold setL at h;split at h
  ·rename_i r' hr
   cases h;obtain⟨h1,h2,h3⟩:=setL_ok hr
   have h4:vs.length<=cs.length:=by
    rcases h3 with h3|h3
    ·simp[h3]
    ·omega
   refine⟨by simp[h1],fun i=> ?_,.inr (by simp;omega)⟩;cases i with
   |zero=>simp
   |succ i=>
    rw[List.getElem?_cons_succ,h2];by_cases hi:i<vs.length
    ·rw[if_pos (by omega),if_pos (by simp;omega)];simp
    ·rw[if_neg (by omega),if_neg (by simp;omega)];simp
  ·cases h
 |c::cs,off+1,v::vs,r,h=>by
  unfold setL at h;split at h
  ·rename_i r' hr
   cases h;obtain⟨h1,h2,h3⟩:=setL_ok hr;have h4:=h3.resolve_left (by simp);refine⟨by simp[h1],fun i=> ?_,.inr (by simp at h4⊢;omega)⟩;cases i with
   |zero=>simp
   |succ i=>
    rw[List.getElem?_cons_succ,h2];by_cases hi:off<=i/\i<off+(v::vs).length
    ·rw[if_pos hi,if_pos (by omega)];congr 1;omega
    ·rw[if_neg hi,if_neg (by omega)];simp
  ·cases h
section
variable {P:Program} {ρ:Env} {T:Nat->Nat->Prop} {s s':St} {w w':World}
theorem lt_n{b:Nat}{x:ABlk}(hw:WfS s)(h:s.heap.get b=some x):b<s.n:=by
 rcases Nat.lt_or_ge b s.n with h1|h1
 ·exact h1
 ·rw[hw b h1] at h;cases h
theorem rd_mono{b off n:Nat}{cs:List AV}(h:rdCells s b off n=some (cs,s')):s'=s.note (.rd b off n)/\Mono s s':=by
 unfold rdCells at h;split at h
 ·rename_i hb
  split at h
  ·simp only[Option.some.injEq,Prod.mk.injEq] at h
   obtain⟨_,rfl⟩:=h;exact⟨rfl,Mono.note _ _ ⟨_,hb,trivial⟩⟩
  ·cases h
 ·cases h
theorem rd_ok{b off n:Nat}{cs:List AV}{r:RB}(h:rdCells s b off n=some (cs,s'))(hp:Pre ρ T s s' w)(hr:ρ b=some r):
 ∃vs:List Value,vs.length=n/\VRL ρ cs vs/\∀j v,vs[j]? =some v->w.cell? ((r.at off).add j)=some v:=by
 obtain⟨he,_⟩:=rd_mono h;unfold rdCells at h;split at h
 ·rename_i t cs0 hb
  split at h
  ·rename_i l hl
   simp only[Option.some.injEq,Prod.mk.injEq] at h;obtain⟨rfl,rfl⟩:=h;obtain⟨h1,h2⟩:=cutL_ok hl;by_cases hn:n=0
   ·subst hn
    exact⟨[],rfl,by rw[h1];exact .nil,fun j v hv=>by simp at hv⟩
   ·have h2:off+n<=cs0.length:=h2.resolve_left hn
    have hT:∀i,off<=i->i<off+n->T b i:=fun i h3 h4=>hp.cov (.rd b off n) (by rw[he];exact List.mem_cons_self ..) (lt_n hp.wf hb) b i ⟨rfl,h3,h4⟩;obtain⟨r0,c,fr,g1,g2,g3,g4,g5,g6⟩:=hp.good.sat b _ hb ⟨off,hT off (n_) (by omega)⟩;replace g4:=g4.1;have:r0=r:=Option.some.inj (g1.symm.trans hr);subst this;refine⟨(c.toList.drop (r0.base+off)).take n,by simp;omega,?_,fun j v hv=> ?_⟩
    ·rw[h1]
     refine VRL.of_get (by simp;omega) (fun i a v ha hv=> ?_)
     have hi:i<n:=by
      have:=(List.getElem?_eq_some_iff.1 ha).1;simp at this;omega
     rw[List.getElem?_take_of_lt hi,List.getElem?_drop] at ha hv;obtain⟨u,hu,hR⟩:=g6 (off+i) a ha (hT _ (by omega) (by omega));rw[<-Array.getElem?_toList,<-Nat.add_assoc] at hu;rw[hu] at hv;cases hv;exact hR
    ·have hj:j<n:=by
      have:=(List.getElem?_eq_some_iff.1 hv).1;simp at this;omega
     rw[List.getElem?_take_of_lt hj,List.getElem?_drop,Array.getElem?_toList] at hv;rw[RB.at_add];unfold RB.at
     rw[cell_in g2,<-hv,Nat.add_assoc]
  ·cases h
 ·cases h
theorem run_cells{a:Addr}{vs:List Value}(h:∀j v,vs[j]? =some v->w.cell? (a.add j)=some v):(loadCells a vs.length).run P w= .ok vs.toArray w:=run_loadCells_list (P:=P) (w:=w) a vs h
def OK1(P:Program)(m:Sem Value)(ρ:Env)(T:Nat->Nat->Prop)(s:St)(w:World)(v:AV)(s':St):Prop:=
 ∃ρ' w' v',m.run P w= .ok v' w'/\Post ρ T s w ρ' s' w'/\VR ρ' v v'
theorem OK1.pure{m:Sem Value}{v:AV}{v':Value}(hp:Pre ρ T s s w)(h:m.run P w= .ok v' w)(hv:VR ρ v v'):OK1 P m ρ T s w v s:=
 ⟨ρ,w,v',h,Post.same hp.good rfl rfl (Still.refl w),hv⟩
theorem opLoad_mono{t:TypeId}{x v:AV}(h:opLoad P t x s=some (v,s')):Mono s s':=by
 unfold opLoad at h;split at h
 ·split at h
  ·rename_i hr
   cases h;exact(rd_mono hr).2
  ·cases h
 ·split at h
  ·rename_i hr
   cases h;exact(rd_mono hr).2
  ·cases h
 ·cases h
theorem opLoad_ok{t:TypeId}{x v:AV}{x':Value}(h:opLoad P t x s=some (v,s'))(hp:Pre ρ T s s' w)(hx:VR ρ x x'):OK1 P (Instr.loadAt t x') ρ T s w v s':=by
 unfold opLoad at h;split at h
 ·rename_i b off n ha hs
  split at h
  ·rename_i cs s1 hr
   simp only[Option.some.injEq,Prod.mk.injEq] at h;obtain⟨rfl,rfl⟩:=h;cases hx with
   |ptr b off r hb=>
    obtain⟨vs,h1,h2,h3⟩:=rd_ok hr hp hb;obtain⟨e,_⟩:=rd_mono hr;subst h1;refine⟨ρ,w,.agg vs.toArray,?_,Post.same hp.good (by rw[e];rfl) (by rw[e];rfl) (Still.refl w),.agg _ _ (by simpa using h2)⟩;simp[Instr.loadAt,Instr.sureAddr,loadVar,run_agg ha,run_szOf hs,run_cells h3]
  ·cases h
 ·rename_i b off ha
  split at h
  ·rename_i v1 s1 hr
   simp only[Option.some.injEq,Prod.mk.injEq] at h;obtain⟨rfl,rfl⟩:=h;cases hx with
   |ptr b off r hb=>
    obtain⟨vs,h1,h2,h3⟩:=rd_ok hr hp hb;obtain⟨e,_⟩:=rd_mono hr
    match vs,h1 with
    |[u],_=>
     cases h2 with
     |cons _ _ _ _ hv _=>
      have hc:=h3 0 u rfl;rw[RB.at_add,Nat.add_zero] at hc;refine⟨ρ,w,u,?_,Post.same hp.good (by rw[e];rfl) (by rw[e];rfl) (Still.refl w),hv⟩;simp[Instr.loadAt,Instr.sureAddr,loadVar,run_agg ha,hc]
  ·cases h
 ·cases h
theorem heap_modify{w:World}{B:Nat}{c:Array Value}{t:TypeId}{fr:Nat×Nat}(h:w.heap[B]? =some (.cells c t fr))(o:Nat)(v:Value):
 (w.setCell ⟨B,o,none⟩ v).heap[B]? =some (.cells (c.setIfInBounds o v) t fr)/\(∀B',B'≠B->(w.setCell ⟨B,o,none⟩ v).heap[B']? =w.heap[B']?)/\(w.setCell ⟨B,o,none⟩ v).heap.size=w.heap.size:=by
 refine⟨?_,fun B' hB=> ?_,?_⟩
 ·simp[World.setCell,Array.getElem?_modify,h]
 ·simp[World.setCell,Array.getElem?_modify,Ne.symm hB]
 ·simp[World.setCell]
theorem run_stores{B o:Nat}{t:TypeId}{fr:Nat×Nat}:∀(vs:List Value) (i:Nat) (c:Array Value) (w:World),w.heap[B]? =some (.cells c t fr)->(∀v∈vs,v.oneCell'=true)->o+i+vs.length<=c.size->
 (∀j,o+i<=j->j<c.size->(decide (fr.1<=j)&&decide (j<fr.2))=false)->∃c' w',(storeCells ⟨B,o,none⟩ vs i).run P w= .ok () w'/\w'.heap[B]? =some (.cells c' t fr)/\c'.size=c.size/\
   (∀j,c'[j]? =if o+i<=j/\j<o+i+vs.length then vs[j-(o+i)]?else c[j]?)/\(∀B',B'≠B->w'.heap[B']? =w.heap[B']?)/\w'.heap.size=w.heap.size/\w'.os=w.os/\w'.tape=w.tape/\w'.output=w.output
 |[],i,c,w,h,_,_,_=>⟨c,w,rfl,h,rfl,fun j=>by rw[if_neg (by simp only[List.length_nil];omega)],fun _ _=>rfl,rfl,rfl,rfl,rfl⟩
 |v::vs,i,c,w,h,ho,hs,hf=>by
  simp only[List.length_cons] at hs
  have ha:(⟨B,o,none⟩:Addr).add i=⟨B,o+i,none⟩:=by
   unfold Addr.add;split
   ·rename_i h0;subst h0;rfl
   ·rfl
  have hc:∃u,w.cell? ⟨B,o+i,none⟩=some u:=by rw[cell_in h];exact⟨_,Array.getElem?_eq_getElem (by omega)⟩
  have hz:w.frozen? ⟨B,o+i,none⟩=false:=by
   simp only[World.frozen?,h];have:=hf (o+i) (n_) (by omega);simpa using this
  obtain⟨u,hu⟩:=hc;obtain⟨m1,m2,m3⟩:=heap_modify h (o+i) v;obtain⟨c',w',g1,g2,g3,g4,g5,g6,g7,g8,g9⟩:=run_stores (B:=B) (o:=o) vs (i+1) (c.setIfInBounds (o+i) v) (w.setCell ⟨B,o+i,none⟩ v) m1 (fun x hx=>ho x (List.mem_cons_of_mem _ hx)) (by simp;omega) (fun j h1 h2=>hf j (by omega) (by simpa using h2));refine⟨c',w',?_,g2,by rw[g3];simp,fun j=> ?_,fun B' hB=>(g5 B' hB).trans (m2 B' hB),g6.trans m3,g7,g8,g9⟩
  ·unfold storeCells
   rw[Sem.run_bind,ha,run_store P w _ v .plain (ho v (List.mem_cons_self ..)),hu];simp only[hz,Bool.false_eq_true,if_false,Result.andThen_ok];exact g1
  ·rw[g4]
   by_cases hj:o+(i+1)<=j/\j<o+(i+1)+vs.length
   ·rw[if_pos hj,if_pos (by simp only[List.length_cons];omega),show j-(o+i)=(j-(o+(i+1)))+1 by omega,List.getElem?_cons_succ]
   ·rw[if_neg hj]
    by_cases hji:j=o+i
    ·subst hji
     rw[if_pos (by simp only[List.length_cons];omega),Nat.sub_self,List.getElem?_cons_zero,Array.getElem?_setIfInBounds,if_pos rfl,if_pos (by omega)]
    ·rw[if_neg (by simp only[List.length_cons];omega),Array.getElem?_setIfInBounds,if_neg (Ne.symm hji)]
theorem wr_mono{b off:Nat}{vs:List AV}(h:wrCells s b off vs=some s'):Mono s s':=by
 unfold wrCells at h;split at h
 ·rename_i hb
  split at h
  ·split at h
   ·rename_i hset
    cases h;obtain⟨h1,h2,_⟩:=setL_ok hset;exact Mono.write _ _ hb h1 (fun i hi=>by rw[h2,if_neg hi])
   ·cases h
  ·cases h
 ·cases h
theorem VRL.ones{l:List AV}{vs:List Value}(h:VRL ρ l vs)(ho:l.all Rk.one=true):∀v∈vs,v.oneCell'=true:=by
 intro v hv;obtain⟨i,hi⟩:=List.getElem?_of_mem hv;have hl:=h.length;have hil:i<l.length:=by have:=(List.getElem?_eq_some_iff.1 hi).1;omega
 obtain⟨u,hu,hR⟩:=h.get i (List.getElem?_eq_getElem hil);rw[hi] at hu;cases hu;exact one_ok hR (List.all_eq_true.1 ho _ (List.getElem_mem hil))
theorem wr_ok{b off:Nat}{vs:List AV}{vs':List Value}{r:RB}(h:wrCells s b off vs=some s')(hp:Pre ρ T s s' w)(hr:ρ b=some r)(hv:VRL ρ vs vs'):
 ∃w',(storeCells (r.at off) vs').run P w= .ok () w'/\Post ρ T s w ρ s' w':=by
 unfold wrCells at h;split at h
 ·rename_i t cs hb
  split at h
  ·rename_i hone
   split at h
   ·rename_i cs' hset
    cases h;simp only[Bool.and_eq_true,Bool.not_eq_true',List.isEmpty_eq_false_iff] at hone;obtain⟨h1,h2,h3⟩:=setL_ok hset;have h3:=h3.resolve_left hone.2;have hlen:=hv.length;have hpos:0<vs.length:=List.length_pos_iff.2 hone.2;have hT:∀i,off<=i->i<off+vs.length->T b i:=fun i h4 h5=>hp.cov (.wr b off vs.length) (List.mem_cons_self ..) (lt_n hp.wf hb) b i ⟨rfl,h4,h5⟩;have hTb:∃i,T b i:=⟨off,hT off (n_) (by omega)⟩
    obtain⟨r0,c,fr,g1,g2,g3,g4,g5,g6⟩:=hp.good.sat b _ hb hTb;replace g4:=g4.1;have:r0=r:=Option.some.inj (g1.symm.trans hr);subst this;obtain⟨c',w',k1,k2,k3,k4,k5,k6,k7,k8,k9⟩:=run_stores (P:=P) (o:=r0.base+off) vs' 0 c w g2 (hv.ones hone.1) (by omega) (fun j h4 h5=>g5 j (by omega) h5);refine⟨w',k1,Post.write (n:=vs.length) hp.good hb hTb hr g2 ⟨k7,k8,k9,k6,k2,k5⟩ k3 (fun o ho=> ?_) hpos h1 (fun i a ha hTi=> ?_)⟩
    ·rw[k4,if_neg (by omega)]
    ·rw[h2] at ha
     rw[k4];by_cases hi:off<=i/\i<off+vs.length
     ·rw[if_pos hi] at ha
      rw[if_pos (by omega),show r0.base+i-(r0.base+off+0)=i-off by omega];exact hv.get _ ha
     ·rw[if_neg hi] at ha
      rw[if_neg (by omega)];exact g6 i a ha hTi
   ·cases h
  ·cases h
 ·cases h
theorem opStore_mono{t:TypeId}{x y:AV}(h:opStore P t x y s=some s'):Mono s s':=by
 unfold opStore at h;split at h
 ·split at h
  ·split at h
   ·cases h;exact Mono.refl _
   ·exact wr_mono h
  ·cases h
 ·cases h
theorem opStore_ok{t:TypeId}{x y:AV}{x' y':Value}(h:opStore P t x y s=some s')(hp:Pre ρ T s s' w)(hx:VR ρ x x')(hy:VR ρ y y'):
 ∃w',(Instr.storeAt t x' y').run P w= .ok () w'/\Post ρ T s w ρ s' w':=by
 unfold opStore at h;split at h
 ·rename_i b off cs n hc hs
  split at h
  ·rename_i hl
   cases hx with
   |ptr b off r hb=>
    have hv:=cells_ok hy hc
    have hsz:y'.cells.size=n:=by
     have:=hv.length;rw[Array.length_toList] at this;omega
    split at h
    ·rename_i hn0
     cases h;refine⟨w,?_,Post.same hp.good rfl rfl (Still.refl w)⟩;have he:y'.cells.toList=[]:=List.length_eq_zero_iff.1 (by rw[Array.length_toList];omega);simp[Instr.storeAt,Instr.sureAddr,storeVar,run_szOf hs,hsz,he,storeCells]
    ·obtain⟨w',h1,h2⟩:=wr_ok (P:=P) h hp hb hv
     refine⟨w',?_,h2⟩;simp[Instr.storeAt,Instr.sureAddr,storeVar,run_szOf hs,hsz,h1]
  ·cases h
 ·cases h
end
end Go.Proofs.YtnocnbklhikmnaaGreatDoor.Rk
namespace Go.Proofs.YtnocnbklhikmnaaGreatDoor
section
open Go Go.RowKit Go.BigFrame
theorem inPath_any(c:UInt8)(w:World):
 Calls Tryz.prog 217 #[.int .u8 (c.toNat:Int)] w fun e w'=>e= .returned (.bool (Ad.pathC c))/\w'=w:=by
 have hb:=c.toNat_lt;have K1:=q_ (letter_any c w);have K2:=q_ (isDigit_any c w);have K3:=q_ (Tryz.strings_IndexByte ⟨#[91,93,45,46]⟩ (c.toNat:Int) w);have hn:Ad.pathC c=(Ad.letter c||Ad.digit c||decide (0<=Lib.indexByte [91,93,45,46] (c.toNat:Int).toNat.toUInt8)):=rfl;have e:(⟨#[91,93,45,46]⟩:ByteArray).data.toList=[91,93,45,46]:=rfl;rw[e] at K3;clear e;generalize Lib.indexByte [91,93,45,46] (c.toNat:Int).toNat.toUInt8=ix at*;generalize Ad.letter c=r1 at*;generalize Ad.digit c=r2 at*;generalize Ad.pathC c=r at*;generalize c.toNat=n at*;have HR:=q_ hn;clear hn;cases r1 with
 |true=>
  go_enter Tryz.func217,Tryz.ntmps217;go_wp2_with (refine K1.o.mono ?_;rintro e w' ⟨rfl,rfl⟩);go_ret;exact⟨by rw[HR.o];simp,rfl⟩
 |false=>
  cases r2 with
  |true=>
   go_enter Tryz.func217,Tryz.ntmps217;go_wp2_with (first|(go_at_call 212;refine K1.o.mono ?_;rintro e w' ⟨rfl,rfl⟩)|(go_at_call 215;refine K2.o.mono ?_;rintro e w' ⟨rfl,rfl⟩));go_ret;exact⟨by rw[HR.o];simp,rfl⟩
  |false=>
   go_enter Tryz.func217,Tryz.ntmps217;go_wp2_with (first|(go_at_call 212;refine K1.o.mono ?_;rintro e w' ⟨rfl,rfl⟩)|(go_at_call 215;refine K2.o.mono ?_;rintro e w' ⟨rfl,rfl⟩)|(go_at_call 108;refine K3.o.mono ?_;rintro e w' ⟨rfl,rfl⟩));go_ret;refine⟨?_,rfl⟩;rw[HR.o];rfl
theorem runName_any(s:ByteArray)(w:World)(hs:s.size<=1048576):
 Calls Tryz.prog 213 #[.string s,.func (.func 214) #[] #[]] w fun e w'=>e= .returned (.int .i64 (Ad.run Ad.nameC s.data.toList:Nat))/\w'=w:=by
 have hle:Ad.run Ad.nameC s.data.toList<=s.size:=by have:=Ad.run_le Ad.nameC s.data.toList;simpa using this
 have HLE:=q_ hle;clear hle;go_enter Tryz.func213,Tryz.ntmps213;go_wp2_with fail;go_loopw [5] (fun v wr=>∃k:Nat,v= .int .i64 k/\k<=s.size/\wr=w/\∀j,j<k->∃c,s.data.toList[j]? =some c/\Ad.nameC c=true) (fun v _=>s.size-(intOf v).toNat)
 case atStart=>exact⟨0,rfl,by omega,rfl,fun j hj=>absurd hj (by omega)⟩
 case round=>
  obtain⟨k,rfl,hk,rfl,hall⟩:=hrel;have HALL:=q_ hall;clear hall;by_cases hlt:k<s.size
  ·have hget:s.data.toList[k]? =some s[k]:=by
    have h2:k<s.data.toList.length:=by simpa using hlt
    rw[List.getElem?_eq_getElem h2];rfl
   have HG:=q_ hget;clear hget;have K:=q_ (inName_any s[k] wr);obtain⟨b,hb⟩:∃b,Ad.nameC s[k]=b:=⟨_,rfl⟩
   have HB:=q_ hb;rw[hb] at K;clear hb;cases b with
   |true=>
    go_wp2_with fail;refine K.o.mono ?_;rintro e w2 ⟨rfl,rfl⟩;go_wp2_with fail;go_roundw
    case rel=>
     refine⟨k+1,by go_num,by omega,by trivial,fun j hj=> ?_⟩;rcases Nat.lt_or_ge j k with h|h
     ·exact HALL.o j h
     ·obtain rfl:j=k:=by omega
      exact⟨_,HG.o,HB.o⟩
    case measure=>simp[intOf];omega
   |false=>
    go_wp2_with fail;refine K.o.mono ?_;rintro e w2 ⟨rfl,rfl⟩;go_wp2_with fail;go_ret;refine⟨?_,rfl⟩;have h1:=Ad.run_drop Ad.nameC s.data.toList k HALL.o;rw[Ad.run_stop Ad.nameC (l:=s.data.toList.drop k) (c:=s[k]) (by rw[List.getElem?_drop];exact HG.o) HB.o] at h1;rw[h1];rfl
  ·obtain rfl:k=s.size:=by omega
   go_wp2_with fail;go_ret;refine⟨?_,rfl⟩;have h1:=Ad.run_drop Ad.nameC s.data.toList s.size HALL.o;rw[List.drop_eq_nil_of_le (by simp)] at h1;rw[h1];rfl
theorem runDigit_any(s:ByteArray)(w:World)(hs:s.size<=1048576):
 Calls Tryz.prog 213 #[.string s,.func (.func 215) #[] #[]] w fun e w'=>e= .returned (.int .i64 (Ad.run Ad.digit s.data.toList:Nat))/\w'=w:=by
 have hle:Ad.run Ad.digit s.data.toList<=s.size:=by have:=Ad.run_le Ad.digit s.data.toList;simpa using this
 have HLE:=q_ hle;clear hle;go_enter Tryz.func213,Tryz.ntmps213;go_wp2_with fail;go_loopw [5] (fun v wr=>∃k:Nat,v= .int .i64 k/\k<=s.size/\wr=w/\∀j,j<k->∃c,s.data.toList[j]? =some c/\Ad.digit c=true) (fun v _=>s.size-(intOf v).toNat)
 case atStart=>exact⟨0,rfl,by omega,rfl,fun j hj=>absurd hj (by omega)⟩
 case round=>
  obtain⟨k,rfl,hk,rfl,hall⟩:=hrel;have HALL:=q_ hall;clear hall;by_cases hlt:k<s.size
  ·have hget:s.data.toList[k]? =some s[k]:=by
    have h2:k<s.data.toList.length:=by simpa using hlt
    rw[List.getElem?_eq_getElem h2];rfl
   have HG:=q_ hget;clear hget;have K:=q_ (isDigit_any s[k] wr);obtain⟨b,hb⟩:∃b,Ad.digit s[k]=b:=⟨_,rfl⟩
   have HB:=q_ hb;rw[hb] at K;clear hb;cases b with
   |true=>
    go_wp2_with fail;refine K.o.mono ?_;rintro e w2 ⟨rfl,rfl⟩;go_wp2_with fail;go_roundw
    case rel=>
     refine⟨k+1,by go_num,by omega,by trivial,fun j hj=> ?_⟩;rcases Nat.lt_or_ge j k with h|h
     ·exact HALL.o j h
     ·obtain rfl:j=k:=by omega
      exact⟨_,HG.o,HB.o⟩
    case measure=>simp[intOf];omega
   |false=>
    go_wp2_with fail;refine K.o.mono ?_;rintro e w2 ⟨rfl,rfl⟩;go_wp2_with fail;go_ret;refine⟨?_,rfl⟩;have h1:=Ad.run_drop Ad.digit s.data.toList k HALL.o;rw[Ad.run_stop Ad.digit (l:=s.data.toList.drop k) (c:=s[k]) (by rw[List.getElem?_drop];exact HG.o) HB.o] at h1;rw[h1];rfl
  ·obtain rfl:k=s.size:=by omega
   go_wp2_with fail;go_ret;refine⟨?_,rfl⟩;have h1:=Ad.run_drop Ad.digit s.data.toList s.size HALL.o;rw[List.drop_eq_nil_of_le (by simp)] at h1;rw[h1];rfl
theorem runPath_any(s:ByteArray)(w:World)(hs:s.size<=1048576):
 Calls Tryz.prog 213 #[.string s,.func (.func 217) #[] #[]] w fun e w'=>e= .returned (.int .i64 (Ad.run Ad.pathC s.data.toList:Nat))/\w'=w:=by
 have hle:Ad.run Ad.pathC s.data.toList<=s.size:=by have:=Ad.run_le Ad.pathC s.data.toList;simpa using this
 have HLE:=q_ hle;clear hle;go_enter Tryz.func213,Tryz.ntmps213;go_wp2_with fail;go_loopw [5] (fun v wr=>∃k:Nat,v= .int .i64 k/\k<=s.size/\wr=w/\∀j,j<k->∃c,s.data.toList[j]? =some c/\Ad.pathC c=true) (fun v _=>s.size-(intOf v).toNat)
 case atStart=>exact⟨0,rfl,by omega,rfl,fun j hj=>absurd hj (by omega)⟩
 case round=>
  obtain⟨k,rfl,hk,rfl,hall⟩:=hrel;have HALL:=q_ hall;clear hall;by_cases hlt:k<s.size
  ·have hget:s.data.toList[k]? =some s[k]:=by
    have h2:k<s.data.toList.length:=by simpa using hlt
    rw[List.getElem?_eq_getElem h2];rfl
   have HG:=q_ hget;clear hget;have K:=q_ (inPath_any s[k] wr);obtain⟨b,hb⟩:∃b,Ad.pathC s[k]=b:=⟨_,rfl⟩
   have HB:=q_ hb;rw[hb] at K;clear hb;cases b with
   |true=>
    go_wp2_with fail;refine K.o.mono ?_;rintro e w2 ⟨rfl,rfl⟩;go_wp2_with fail;go_roundw
    case rel=>
     refine⟨k+1,by go_num,by omega,by trivial,fun j hj=> ?_⟩;rcases Nat.lt_or_ge j k with h|h
     ·exact HALL.o j h
     ·obtain rfl:j=k:=by omega
      exact⟨_,HG.o,HB.o⟩
    case measure=>simp[intOf];omega
   |false=>
    go_wp2_with fail;refine K.o.mono ?_;rintro e w2 ⟨rfl,rfl⟩;go_wp2_with fail;go_ret;refine⟨?_,rfl⟩;have h1:=Ad.run_drop Ad.pathC s.data.toList k HALL.o;rw[Ad.run_stop Ad.pathC (l:=s.data.toList.drop k) (c:=s[k]) (by rw[List.getElem?_drop];exact HG.o) HB.o] at h1;rw[h1];rfl
  ·obtain rfl:k=s.size:=by omega
   go_wp2_with fail;go_ret;refine⟨?_,rfl⟩;have h1:=Ad.run_drop Ad.pathC s.data.toList s.size HALL.o;rw[List.drop_eq_nil_of_le (by simp)] at h1;rw[h1];rfl
end
section
open Go
namespace Ad
def text(l:Bs):Option (Bs×Nat):=
 match l with
 |[]=>none
 |c::r=>
  if c.toNat=34 then some ([],1)
  else if c.toNat<32\/126<c.toNat then none
  else if c.toNat≠92 then(text r).map fun x=>(c::x.1,x.2+1)
  else match r with
   |[]=>none
   |d::r2=>
    if d.toNat=34\/d.toNat=92 then(text r2).map fun x=>(d::x.1,x.2+2)
    else if d.toNat≠120 then none
    else match r2 with
     |a::b::r3=>
      match P.unhex [a,b] with
      |none=>none
      |some v=>(text r3).map fun x=>(v++x.1,x.2+4)
     |_=>none
termination_by l.length
decreasing_by all_goals (simp;try omega)
theorem text_nil:text []=none:=by unfold text;rfl
theorem text_end{c:UInt8}{r:Bs}(h:c.toNat=34):text (c::r)=some ([],1):=by unfold text;rw[if_pos h]
theorem text_bad{c:UInt8}{r:Bs}(h:c.toNat≠34)(h2:c.toNat<32\/126<c.toNat):text (c::r)=none:=by unfold text;rw[if_neg h,if_pos h2]
theorem text_plain{c:UInt8}{r:Bs}(h:c.toNat≠34)(h2:32<=c.toNat/\c.toNat<=126)(h3:c.toNat≠92):text (c::r)=(text r).map fun x=>(c::x.1,x.2+1):=by
 conv=>lhs;unfold text
 rw[if_neg h,if_neg (by omega),if_pos h3]
theorem text_one{c:UInt8}(h:c.toNat=92):text [c]=none:=by
 unfold text;rw[if_neg (by omega),if_neg (by omega),if_neg (by simpa using h)]
theorem text_esc{c d:UInt8}{r:Bs}(h:c.toNat=92)(h2:d.toNat=34\/d.toNat=92):text (c::d::r)=(text r).map fun x=>(d::x.1,x.2+2):=by
 conv=>lhs;unfold text
 rw[if_neg (by omega),if_neg (by omega),if_neg (by simpa using h)];simp only[if_pos h2]
theorem text_noesc{c d:UInt8}{r:Bs}(h:c.toNat=92)(h2:d.toNat≠34/\d.toNat≠92)(h3:d.toNat≠120):text (c::d::r)=none:=by
 unfold text;rw[if_neg (by omega),if_neg (by omega),if_neg (by simpa using h)];simp only[if_neg (show¬(d.toNat=34\/d.toNat=92) by omega),if_pos h3]
theorem text_short{c d:UInt8}{r:Bs}(h:c.toNat=92)(h2:d.toNat≠34/\d.toNat≠92)(h3:r.length<2):text (c::d::r)=none:=by
 unfold text;rw[if_neg (by omega),if_neg (by omega),if_neg (by simpa using h)];simp only[if_neg (show¬(d.toNat=34\/d.toNat=92) by omega)];split
 ·rfl
 ·split
  ·simp at h3;omega
  ·rfl
theorem text_hex{c d a b:UInt8}{r:Bs}(h:c.toNat=92)(h2:d.toNat=120):text (c::d::a::b::r)=match P.unhex [a,b] with|none=>none|some v=>(text r).map fun x=>(v++x.1,x.2+4):=by
 conv=>lhs;unfold text
 rw[if_neg (by omega),if_neg (by omega),if_neg (by simpa using h)];simp only[if_neg (show¬(d.toNat=34\/d.toNat=92) by omega),if_neg (show¬d.toNat≠120 by omega)]
theorem text_len:∀(k:Nat) (l v:Bs) (n:Nat),l.length<=k->text l=some (v,n)->1<=n/\n<=l.length
 |0,l,v,n,hk,h=>by
  cases l with
  |nil=>rw[text_nil] at h;cases h
  |cons a l=>simp at hk
 |k+1,l,v,n,hk,h=>by
  cases l with
  |nil=>rw[text_nil] at h;cases h
  |cons c r=>
   simp at hk
   have go:∀(r:Bs) (f:Bs->Bs) (j:Nat),r.length<=k->(text r).map (fun x=>(f x.1,x.2+j))=some (v,n)->1<=n/\n<=r.length+j:=by
    intro r f j hr h;cases ht:text r with
    |none=>rw[ht] at h;cases h
    |some y=>
     rw[ht] at h;simp at h;have:=text_len k r y.1 y.2 hr ht;omega
   by_cases h1:c.toNat=34
   ·rw[text_end h1] at h
    simp at h;simp
    try omega
   ·by_cases h2:c.toNat<32\/126<c.toNat
    ·rw[text_bad h1 h2] at h;cases h
    ·by_cases h3:c.toNat=92
     ·cases r with
      |nil=>rw[text_one h3] at h;cases h
      |cons d r=>
       simp at hk;by_cases h4:d.toNat=34\/d.toNat=92
       ·rw[text_esc h3 h4] at h
        have:=go r (fun x=>d::x) 2 (by omega) h;simp;omega
       ·by_cases h5:d.toNat=120
        ·cases r with
         |nil=>rw[text_short h3 (by omega) (by simp)] at h;cases h
         |cons a r=>
          cases r with
          |nil=>rw[text_short h3 (by omega) (by simp)] at h;cases h
          |cons b r=>
           simp at hk;rw[text_hex h3 h5] at h;split at h
           ·cases h
           ·rename_i u _
            have:=go r (fun x=>u++x) 4 (by omega) h;simp;omega
        ·rw[text_noesc h3 (by omega) h5] at h;cases h
     ·rw[text_plain h1 (by omega) h3] at h
      have:=go r (fun x=>c::x) 1 (by omega) h;simp;omega
structure Tok where
 kind:Int
 text:Bs
 num:Int
def blank(c:UInt8):Prop:=c.toNat=10\/c.toNat=32\/c.toNat=9\/c.toNat=13
end Ad
end
namespace M
mutual
def wfT:Tree->Prop
 | .mk x ks=>x.n=(ks.length:Int)/\wfL ks
def wfL:List Tree->Prop
 |[]=>True
 |t::l=>wfT t/\wfL l
end
def sumN(l:List Node):Int:=(l.map fun x=>x.n-1).sum
theorem sumN_nil:sumN []=0:=rfl
theorem sumN_cons(x:Node)(l:List Node):sumN (x::l)=x.n-1+sumN l:=by simp[sumN]
theorem sumN_append(a b:List Node):sumN (a++b)=sumN a+sumN b:=by simp[sumN]
mutual
theorem sum_flat:∀t:Tree,wfT t->sumN (flat t)= -1
 | .mk x ks,h=>by
   unfold wfT at h;unfold flat;rw[sumN_cons,sum_flats ks h.2,h.1];omega
theorem sum_flats:∀l:List Tree,wfL l->sumN (flats l)= -(l.length:Int)
 |[],_=>by unfold flats;rfl
 |t::l,h=>by
  unfold wfL at h;unfold flats;rw[sumN_append,sum_flat t h.1,sum_flats l h.2,List.length_cons];omega
end
mutual
theorem sum_take:∀(t:Tree) (k:Nat),wfT t->k<(flat t).length->0<=sumN ((flat t).take k)
 | .mk x ks,k,h,hk=>by
   unfold wfT at h;unfold flat at hk⊢;cases k with
   |zero=>simp[sumN]
   |succ j=>
    rw[List.take_succ_cons,sumN_cons,h.1];have:=sum_takes ks j h.2 (by simpa using hk);omega
theorem sum_takes:∀(l:List Tree) (k:Nat),wfL l->k<(flats l).length->1-(l.length:Int)<=sumN ((flats l).take k)
 |[],k,_,hk=>by unfold flats at hk;simp at hk
 |t::l,k,h,hk=>by
  unfold wfL at h;unfold flats at hk⊢;rw[List.length_append] at hk;rw[List.take_append,sumN_append,List.length_cons];by_cases h1:k<(flat t).length
  ·have h2:=sum_take t k h.1 h1
   rw[show k-(flat t).length=0 by omega,List.take_zero,sumN_nil];omega
  ·have h2:=sum_takes l (k-(flat t).length) h.2 (by omega)
   rw[List.take_of_length_le (by omega),sum_flat t h.1];omega
end
end M
section
open Go Go.RowKit Go.BigFrame
def reservedCells:Array Value:=(M.reserved.map Value.string).toArray
theorem reserved_any(w:World):Calls Tryz.prog 261 #[] w fun e w'=>e= .returned (.slice (some ⟨w.heap.size,0,none⟩) 12 12)/\w'=w.alloc (.cells reservedCells 9):=by
 go_enter Tryz.func261,Tryz.ntmps261;go_wp2;go_ret;exact⟨rfl,rfl⟩
theorem reserved_list(w:World):LAt EStr (w.alloc (.cells reservedCells 9)) (fun b=>b=w.heap.size) (some ⟨w.heap.size,0,none⟩) 12 M.reserved:=by
 refine⟨rfl,fun _=>⟨_,rfl,rfl,fun k x hx=>⟨[.string x],EStr.mk ?_,fun i u hu=> ?_⟩⟩⟩
 ·have hm:=List.mem_of_getElem? hx
  have hall:∀y∈M.reserved,y.size<=1048576:=by decide
  exact hall x hm
 ·cases i with
  |succ i=>simp at hu
  |zero=>
   simp at hu;subst hu;have:=(Blk.new w 9 reservedCells).cell k;rw[show reservedCells[k]? =some (.string x) by unfold reservedCells;simp[hx]] at this;simpa[Addr.add_lit,EStr,Enc.flat] using this
theorem OwnE.toLAt{α:Type}{E:Enc α}{T:TypeId}{w:World}{B:Nat}{S:Nat->Prop}{A:Option Addr}{m c:Nat}{xs:List α}(h:OwnE E T w B S (.slice A m c) xs)(hm:xs.length<=1048576):SOk A xs.length c/\LAt E w (fun b=>S b\/(Value.slice A m c).ownBlock=some b) A xs.length xs:=by
 have r:=h.reads (S':=fun b=>S b\/(Value.slice A m c).ownBlock=some b) (fun b hb=> .inl hb) (fun g hg=> .inr hg) hm;obtain⟨A2,c2,e,h1,h2⟩:=Enc.list_inv r;injection e with e1 e2 e3;subst e1 e3;exact⟨h1,h2⟩
theorem results_cell_tmp1{fn:Func}{p u:Tmp}{ty:TypeId}(h:fn.results=#[.cell p ty,.tmp u])(tmps:Array Value)(P:Program)(w:World):
 (results fn tmps).run P w=
   ((asAddr (tmps.getD p undef)).run P w).andThen fun a w₁=>((loadVar ty a).run P w₁).andThen fun x w₂=> .ok (.tuple #[x,tmps.getD u undef]) w₂:=by
 simp only[results,h];simp[Sem.run_bind,Result.andThen]
end
end Go.Proofs.YtnocnbklhikmnaaGreatDoor
