/- Part 17 of the proof. -/
import Derived.Maps.RangeWalk
import Derived.Test.YtpohlhkgbmdieaaGreatDoorW16
set_option linter.unusedVariables false
set_option maxRecDepth 1000000
set_option maxHeartbeats 16000000
namespace Go.Proofs.YtpohlhkgbmdieaaGreatDoor
section
open Go Go.RowKit Go.Maps Go.MapKept Go.ChangeMaps
theorem oM(es:Array MapEntry)(seen:Array Nat)(e:MapEntry):(leftOf es (seen.push e.born)).toList=(leftOf es seen).toList.filter fun x=> !(x.born==e.born):=by
 unfold leftOf;rw[Array.toList_filter,Array.toList_filter,List.filter_filter];congr 1;funext x;rw[Array.contains_push];cases seen.contains x.born<;>cases h:x.born==e.born<;>simp_all
theorem dV{es:Array MapEntry}{seen:Array Nat}{e:MapEntry}:e∈(leftOf es seen).toList<->e∈es.toList/\seen.contains e.born=false:=by
 unfold leftOf;rw[Array.toList_filter];simp[List.mem_filter]
theorem vp{α:Type}(p:α->Bool):∀(l:List α) (x:α),x∈l->p x=false->(l.filter p).length<l.length
 |y::l,x,hx,hp=>by
  rcases List.mem_cons.1 hx with rfl|h
  ·simp[hp]
   exact Nat.lt_succ_of_le (List.length_filter_le _ _)
  ·have:=vp p l x h hp
   rw[List.filter_cons];split
   ·rw[List.length_cons,List.length_cons]
    omega
   ·rw[List.length_cons]
    omega
theorem TS{l:List MapEntry}(hn:(l.map (·.key)).Nodup){x y:MapEntry}(hx:x∈l)(hy:y∈l)(h:x.key=y.key):x=y:=by
 have:=List.pairwise_map.1 hn;exact entry_eq_of_key this hx hy h
theorem Pp{l:List MapEntry}(hn:(l.map (·.born)).Nodup){x y:MapEntry}(hx:x∈l)(hy:y∈l)(h:x.born=y.born):x=y:=by
 have h1:=find_born x l hn hx;have h2:=find_born y l hn hy;rw[h] at h1;exact i_ (h1.symm.trans h2)
theorem yD{w:World}{r i:Nat}(o:Obj)(hne:i≠r):(setBlock w r o).heap[i]? =w.heap[i]? :=by
 simp[setBlock,Ne.symm hne]
theorem Pq{w:World}{r:Nat}(o:Obj)(h:r<w.heap.size):(setBlock w r o).heap[r]? =some o:=by
 simp[setBlock,h]
def fp(P:Program)(k:TypeId){κ:Type}(enc:κ->Value)(w:World)(b r:Nat)(f:κ->Option Value)(todo:κ->Prop)(n:Nat):Prop:=
 ∃es clock seen,w.heap[b]? =some (.map es clock)/\w.heap[r]? =some (.mapIter (some b) clock seen clock)/\(∀e∈es.toList,(∃kl,keyOf P k e.key=some kl)/\∃x,e.key=enc x/\f x=some e.val)/\(∀x v,f x=some v->∃e∈es.toList,e.key=enc x/\e.val=v)/\Stamped es clock/\(∀x,todo x<->∃e∈(leftOf es seen).toList,e.key=enc x)/\(leftOf es seen).size=n
section
variable {P:Program} {k:TypeId} {κ:Type} {enc:κ->Value} {w w':World} {b r n:Nat} {f:κ->Option Value} {todo:κ->Prop}
theorem yE{es:Array MapEntry}{clock:Nat}(hs:Stamped es clock):∀(i j:Nat) (ei ej:MapEntry),es[i]? =some ei->es[j]? =some ej->ei.key=ej.key->i=j:=by
 intro i j ei ej hi hj he;have h1:(es.toList.map (·.key))[i]? =some ei.key:=by simp[hi]
 have h2:(es.toList.map (·.key))[j]? =some ej.key:=by simp[hj]
 have hl:=(g_ h1).1;have h3:=hs.2.2;rw[List.Nodup,List.pairwise_iff_getElem] at h3;have hl2:=(g_ h2).1;have e1:=(g_ h1).2;have e2:=(g_ h2).2;rcases Nat.lt_trichotomy i j with h|h|h
 ·exact absurd (e1.trans (he.trans e2.symm)) (h3 i j hl hl2 h)
 ·exact h
 ·exact absurd (e2.trans (he.symm.trans e1.symm)) (h3 j i hl2 hl h)
theorem fp.map(h:fp P k enc w b r f todo n):cY P k enc w b f:=by
 obtain⟨es,clock,seen,h1,h2,h3,h4,h5,h6,h7⟩:=h;exact⟨es,clock,h1,h3,h4,yE h5,h5⟩
theorem fp.lt(h:fp P k enc w b r f todo n):r<w.heap.size:=by
 obtain⟨es,clock,seen,h1,h2,_⟩:=h;exact(Array.getElem?_eq_some_iff.1 h2).1
theorem fp.ne(h:fp P k enc w b r f todo n):r≠b:=by
 obtain⟨es,clock,seen,h1,h2,_⟩:=h;intro e;rw[e,h1] at h2;cases h2
theorem fp.left_eq(h:fp P k enc w b r f todo n):w.rangeLeft b r=n:=by
 obtain⟨es,clock,seen,h1,h2,_,_,_,_,h7⟩:=h;simp only[World.rangeLeft,h1,h2];exact h7
theorem fp.keep(h:fp P k enc w b r f todo n)(hb:w'.heap[b]? =w.heap[b]?)(hr:w'.heap[r]? =w.heap[r]?):fp P k enc w' b r f todo n:=by
 obtain⟨es,clock,seen,h1,h2,h3⟩:=h;exact⟨es,clock,seen,hb.trans h1,hr.trans h2,h3⟩
theorem fp.below{B:Nat}(h:fp P k enc w b r f todo n)(hs:Below B w w')(hb:b<B)(hr:r<B):fp P k enc w' b r f todo n:=h.keep (hs.block b hb) (hs.block r hr)
theorem fp.grown{row:Option Nat}(h:fp P k enc w b r f todo n)(hg:w.grownBy w' row)(hb:some b≠row)(hr:some r≠row):fp P k enc w' b r f todo n:=h.keep (hg.block b h.map.lt hb) (hg.block r h.lt hr)
variable {ops:Array Oper} {rest:List Oper} {o:Oper} {a:Act} {Q:Exit->Act->World->Prop}
theorem vq(hg:o.guard=none)(m:Operand)(t e:TypeId)(hop:o.op=Op.range t m)(ht:P.underlying t=some (.map k e))(h:cY P k enc w b f)(lB:∀x y,enc x=enc y->x=y)(hm:a.eval m= .map (some b))(hK:∀w' n,fp P k enc w' b w.heap.size f (fun x=>(f x).isSome=true) n->w.grownBy w' none->w'.heap.size=w.heap.size+1->wpList P ops Q rest (a.put o.dst (.pointer (some ⟨w.heap.size,0,none⟩))) w'):wpList P ops Q (o::rest) a w:=by
 refine wpList_plain hg fun K' hK'=> ?_;have hlt:=h.lt;obtain⟨es,clock,hb,h1,h2,h3,hst⟩:=h;unfold Oper.wp;simp[execOp,hop,hm,run_range_map w t k e b es clock ht hb,Result.andThen];refine hK' _ _ (hK _ _ ⟨es,clock,#[],by rw[Below.heap_alloc w _ b hlt];exact hb,(MapKept.heap_alloc w _).1,h1,h2,hst,fun x=>⟨fun hx=> ?_,fun⟨e,he,hk⟩=> ?_⟩,rfl⟩ (World.grownBy_alloc w _ none) (by simp))
 ·obtain⟨v,hv⟩:=Option.isSome_iff_exists.1 hx
  obtain⟨e,he,hk,_⟩:=h2 x v hv;exact⟨e,dV.2 ⟨he,by simp⟩,hk⟩
 ·obtain⟨_,y,hy,hv⟩:=h1 e (dV.1 he).1
  have:y=x:=lB _ _ (hy.symm.trans hk);rw[<-this,hv];rfl
theorem xy(hg:o.guard=none)(it:Operand)(hop:o.op=Op.next it false)(h:fp P k enc w b r f todo n)(lB:∀x y,enc x=enc y->x=y)(hit:a.eval it= .pointer (some ⟨r,0,none⟩))(hDone:n=0->(∀x,¬todo x)->wpList P ops Q rest (a.put o.dst (.tuple #[.bool false])) w)(hMore:∀(x:κ) (v:Value) (w':World) (n':Nat),todo x->f x=some v->(∃kl,keyOf P k (enc x)=some kl)->fp P k enc w' b r f (fun y=>todo y/\y≠x) n'->n'<n->w.grownBy w' (some r)->w'.heap.size=w.heap.size->
   (Instr.entry (.pointer (some ⟨r,0,none⟩))).run P w'= .ok (.tuple #[enc x,v]) w'->wpList P ops Q rest (a.put o.dst (.tuple #[.bool true,enc x,v])) w'):wpList P ops Q (o::rest) a w:=by
 refine wpList_plain hg fun K' hK'=> ?_;have hne:=h.ne;have hrl:=h.lt;obtain⟨es,clock,seen,hb,hr,h1,h2,hst,h6,h7⟩:=h;unfold Oper.wp;rcases run_next_at (P:=P) w o.type r b clock clock seen es clock hr hb hst.1 (n_) with⟨h0,hrun⟩|⟨e,he,w1,bu,hrun⟩
 ·simp[execOp,hop,hit,hrun,Result.andThen]
  refine hK' _ _ (hDone (h7.symm.trans h0) fun x hx=> ?_);obtain⟨e,he,_⟩:=(h6 x).1 hx;have:(leftOf es seen).toList=[]:=by simpa using h0
  rw[this] at he;cases he
 ·have Fu:=(dV.1 he).1
  obtain⟨nM,x,hkx,hv⟩:=h1 e Fu;have hr1:w1.heap[r]? =some (.mapIter (some b) clock seen clock):=by rcases bu with rfl|rfl<;>exact hr
  have hb1:w1.heap[b]? =some (.map es clock):=by rcases bu with rfl|rfl<;>exact hb
  have hbs:(setBlock w1 r (.mapIter (some b) clock (seen.push e.born) clock)).heap[b]? =some (.map es clock):=(yD _ (Ne.symm hne)).trans hb1;have hrs:=Pq (w:=w1) (r:=r) (.mapIter (some b) clock (seen.push e.born) clock) ((Array.getElem?_eq_some_iff.1 hr1).1);have hen:=run_entry_at (P:=P) _ r b clock seen es clock e hrs hbs Fu hst.2.1;rw[hkx] at hen nM
  have hlt:(leftOf es (seen.push e.born)).size<n:=by
   rw[<-h7,<-Array.length_toList,<-Array.length_toList,oM];exact vp _ _ e he (by simp)
  simp[execOp,hop,hit,hrun,Result.andThen];rw[hkx];refine hK' _ _ (hMore x e.val _ _ ((h6 x).2 ⟨e,he,hkx⟩) hv nM ⟨es,clock,_,hbs,hrs,h1,h2,hst,fun y=>⟨fun⟨hy,hyx⟩=> ?_,fun⟨e2,yg,hk2⟩=> ?_⟩,rfl⟩ hlt ?_ ?_ hen)
  ·obtain⟨e2,yg,hk2⟩:=(h6 y).1 hy
   refine⟨e2,?_,hk2⟩;rw[oM];refine List.mem_filter.2 ⟨yg,?_⟩
   have:e2.born≠e.born:=fun hq=>hyx (by
    have:=Pp hst.2.1 (dV.1 yg).1 Fu hq;rw[this,hkx] at hk2;exact(lB _ _ hk2).symm)
   simp[this]
  ·rw[oM] at yg
   obtain⟨h8,h9⟩:=List.mem_filter.1 yg;refine⟨(h6 y).2 ⟨e2,h8,hk2⟩,fun hq=> ?_⟩;subst hq;have:=TS hst.2.2 (dV.1 h8).1 Fu (hk2.trans hkx.symm);rw[this] at h9;simp at h9
  ·rcases bu with rfl|rfl<;>exact⟨rfl,rfl,rfl,by simp[setBlock],fun i _ hi=>yD _ (fun e1=>hi (by rw[e1]))⟩
  ·rcases bu with rfl|rfl<;>simp[setBlock]
theorem AP[DecidableEq κ](hg:o.guard=none)(m x:Operand)(t e:TypeId)(hop:o.op=Op.call {callee:=Callee.builtin Builtin.delete,args:=#[m,x],argTypes:=#[t,k]})(h:fp P k enc w b r f todo n)(K:Keyed P k)(ht:P.underlying t=some (.map k e))(lB:∀x y,enc x=enc y->x=y)(hm:a.eval m= .map (some b))(y:κ)(hx:a.eval x=enc y)(hkey:∃kl,keyOf P k (enc y)=some kl)(hK:∀w' n',fp P k enc w' b r (fun z=>if z=y then none else f z) (fun z=>todo z/\z≠y) n'->n'<=n->w.grownBy w' (some b)->w'.heap.size=w.heap.size->wpList P ops Q rest (a.put o.dst (.tuple #[])) w'):wpList P ops Q (o::rest) a w:=by
 refine wpList_plain hg fun K' hK'=> ?_;have hne:=h.ne;obtain⟨kl,hkey⟩:=hkey;obtain⟨es,clock,seen,hb,hr,h1,h2,hst,h6,h7⟩:=h
 have jaC:∃es',(Builtin.delete_ #[t,k] o.type #[.map (some b),enc y]).run P w= .ok (.tuple #[]) (setBlock w b (.map es' clock))/\Stamped es' clock/\es'.toList.Sublist es.toList/\∀z,z∈es'.toList<->(z∈es.toList/\z.key≠enc y):=by
  rcases K.find w hkey es.toList (fun e he=>(h1 e he).1) with⟨g1,g2⟩|⟨j,e0,g1,g2,g3⟩
  ·exact⟨es,by simp[Builtin.delete_,run_underlying ht,MapKept.run_getObj_map hb,K.check w _ hkey,g1,MapKept.run_setObj_map _ hb,Result.andThen,setBlock],hst,List.Sublist.refl _,fun z=>⟨fun hz=>⟨hz,g2 z hz⟩,fun hz=>hz.1⟩⟩
  ·have Zw:j<es.size:=by simpa using(g_ g2).1
   have Lq:(es.eraseIdxIfInBounds j).toList=es.toList.eraseIdx j:=by
    unfold Array.eraseIdxIfInBounds;rw[dif_pos Zw];simp
   refine⟨es.eraseIdxIfInBounds j,by simp[Builtin.delete_,run_underlying ht,MapKept.run_getObj_map hb,K.check w _ hkey,g1,MapKept.run_setObj_map _ hb,Result.andThen,setBlock],stamped_erase hst j,by rw[Lq];exact List.eraseIdx_sublist _ _,fun z=> ?_⟩;rw[Lq,List.mem_eraseIdx_iff_getElem?];constructor
   ·rintro⟨i,GL,hi⟩
    refine⟨m_ hi,fun hq=>GL ?_⟩;exact yE hst i j z e0 (by simpa using hi) (by simpa using g2) (hq.trans g3.symm)
   ·rintro⟨hz,hq⟩
    obtain⟨i,hi⟩:=List.getElem?_of_mem hz;refine⟨i,fun e1=>hq ?_,hi⟩;rw[e1,g2] at hi;cases hi;exact g3
 obtain⟨es',hrun,jbZ,Lq,TT⟩:=jaC
 have Lr:(leftOf es' seen).size<=n:=by
  rw[<-h7,<-Array.length_toList,<-Array.length_toList];unfold leftOf;rw[Array.toList_filter,Array.toList_filter];exact(Lq.filter _).length_le
 unfold Oper.wp;simp[execOp,hop,resolve,invoke,builtin,hm,hx,hrun,Result.andThen];refine hK' _ _ (hK _ _ ⟨es',clock,seen,heap_setBlock_same hb _,(heap_setBlock_other hb _ hne).trans hr,fun e he=> ?_,fun z v hz=> ?_,jbZ,fun z=>⟨fun⟨hz,hzy⟩=> ?_,fun⟨e2,yg,hk2⟩=> ?_⟩,rfl⟩ Lr ⟨rfl,rfl,rfl,by simp[setBlock],fun i _ hi=>heap_setBlock_other hb _ (fun e1=>hi (by rw[e1]))⟩ (by simp[setBlock]))
 ·obtain⟨XI,yg⟩:=(TT e).1 he
  obtain⟨nM,z,hz,hv⟩:=h1 e XI;exact⟨nM,z,hz,(if_neg (fun hq=>yg (by rw[hz,hq]))).trans hv⟩
 ·by_cases hq:z=y
  ·replace hz:(if z=y then none else f z)=some v:=hz
   rw[if_pos hq] at hz;cases hz
  ·replace hz:(if z=y then none else f z)=some v:=hz
   rw[if_neg hq] at hz;obtain⟨e,he,hk,hv⟩:=h2 z v hz;exact⟨e,(TT e).2 ⟨he,fun hc=>hq (lB _ _ (hk.symm.trans hc))⟩,hk,hv⟩
 ·obtain⟨e,he,hk⟩:=(h6 z).1 hz
  obtain⟨XI,yg⟩:=dV.1 he;exact⟨e,dV.2 ⟨(TT e).2 ⟨XI,fun hc=>hzy (lB _ _ (hk.symm.trans hc))⟩,yg⟩,hk⟩
 ·obtain⟨XI,SD⟩:=dV.1 yg
  obtain⟨he4,he5⟩:=(TT e2).1 XI;exact⟨(h6 z).2 ⟨e2,dV.2 ⟨he4,SD⟩,hk2⟩,fun hc=>he5 (hk2.trans (by rw[hc]))⟩
end
end
section
open Go Go.RowKit Go.BigFrame Go.Maps Go.WideMaps
structure PV where
 d:M.bR
 v:Value
 tv:Value
 now:ByteArray
 rv:Value
 sv:Value
 stop:Bool
def PV.cells(p:PV)(F u:Nat):Array Value:=#[.int .u8 (p.d.f.toNat:Int),.int .u8 (p.d.c.toNat:Int),.int .u8 (p.d.r.toNat:Int),.int .u8 (p.d.e.toNat:Int),.int .u8 (p.d.s.toNat:Int),p.v,p.tv,.string p.now,.int .i64 (F:Nat),.int .i64 (u:Nat),p.rv,.bool p.stop,p.sv]
structure ax(Mu:Nat->Prop)(w w':World):Prop where
 os:w'.os=w.os
 tape:w'.tape=w.tape
 output:w'.output=w.output
 size:w.heap.size<=w'.heap.size
 block:∀b,b<w.heap.size->¬Mu b->w'.heap[b]? =w.heap[b]?
section
variable {Mu ml:Nat->Prop} {w w' w'':World}
theorem ax.refl(Mu:Nat->Prop)(w:World):ax Mu w w:=⟨rfl,rfl,rfl,n_,fun _ _ _=>rfl⟩
theorem ax.trans(h:ax Mu w w')(h2:ax ml w' w'')(hm:∀b,b<w.heap.size->ml b->Mu b):ax Mu w w'':=
 ⟨h2.os.trans h.os,h2.tape.trans h.tape,h2.output.trans h.output,t_ h.size h2.size,fun b hb h1=>(h2.block b (l_ hb h.size) (fun h3=>h1 (hm b hb h3))).trans (h.block b hb h1)⟩
theorem ax.of(h:Below w.heap.size w w'):ax Mu w w':=⟨h.os,h.tape,h.output,h.size,fun b hb _=>h.block b hb⟩
theorem ax.wide(h:ax Mu w w')(hm:∀b,b<w.heap.size->Mu b->ml b):ax ml w w':=⟨h.os,h.tape,h.output,h.size,fun b hb h1=>h.block b hb (fun h2=>h1 (hm b hb h2))⟩
theorem ax.on(h:ax Mu w w')(h2:Below w'.heap.size w' w''):ax Mu w w'':=h.trans (ax.of (Mu:=fun _=>False) h2) (fun _ _ h=>h.elim)
theorem ax.grown(h:ax Mu w w'){r:Nat}(hr:r<w.heap.size->Mu r)(hg:w'.grownBy w'' (some r)):ax Mu w w'':=
 h.trans (ml:=fun b=>b=r) ⟨hg.os,hg.tape,hg.output,hg.size,fun b hb h1=>hg.block b hb (fun e=>h1 (by injection e))⟩ (fun b hb e=>by subst e;exact hr hb)
theorem ax.Ha(h:ax Mu w w'){r:Option Nat}(hr:∀b,r=some b->b<w.heap.size->Mu b)(hg:w'.grownBy w'' r):ax Mu w w'':=
 h.trans (ml:=fun b=>r=some b) ⟨hg.os,hg.tape,hg.output,hg.size,fun b hb h1=>hg.block b hb (fun e=>h1 e.symm)⟩ (fun b hb e=>hr b e hb)
theorem ax.blk{b:Nat}{T:TypeId}{cs:Array Value}(h:ax Mu w w')(hk:ar w b T cs)(h1:¬Mu b):ar w' b T cs:=(h.block b hk.lt h1).trans hk
theorem ax.cell{p:Addr}(h:ax Mu w w')(hb:p.block<w.heap.size)(h1:¬Mu p.block):w'.cell? p=w.cell? p:=World.cell?_of_block (h.block _ hb h1)
theorem ax.nu{α:Type}{E:aU α}{S:Nat->Prop}{A:Option Addr}{m:Nat}{xs:List α}(h:ax Mu w w')(hl:bn E w S A m xs)(hS:∀b,S b->b<w.heap.size/\¬Mu b):bn E w' S A m xs:=
 hl.keep (fun b hb=>hb) (fun p hp=>h.cell (hS _ hp).1 (hS _ hp).2)
theorem ax.below{B:Nat}(h:ax Mu w w')(hB:B<=w.heap.size)(hM:∀b,b<B->¬Mu b):Below B w w':=⟨h.os,h.tape,h.output,h.size,fun b hb=>h.block b (by omega) (hM b hb)⟩
end
abbrev aW(g:Nat)(w w':World):Prop:=ax (fun b=>b=g) w w'
theorem ar.one_set{w:World}{g:Nat}{T:TypeId}{u:Value}(h:ar w g T #[u])(v:Value):ar (w.setCell ⟨g,0,none⟩ v) g T #[v]:=by
 have:=h.fK 0 v;simpa using this
def XJ:aU Nat:=aU.flat (fun b=>[.map (some b)]) 1 Nat.one_pos (fun _=>True) (fun _=>rfl) (fun _ u hu=>by simp at hu;subst hu;rfl)
def xz:Nat->Prop:=fun _=>False
abbrev Hb(w:World)(b:Nat)(s:M.Scope):Prop:=cY Tryz.prog 9 Value.string w b (fun x=>(s x).map eh)
structure b9(w:World)(g:Nat)(Mu S:Nat->Prop)(c:M.Cx)(st:M.St)(p:PV)(bs:List Nat):Prop where
 d:p.d=st.m.d
 now:p.now=c.now
 stop:p.stop=st.stopped
 jU:c.now.size<=1048576
 msg:∃A n,p.v= .slice A st.m.aH.length n/\bX A st.m.aH.length n/\bn aX w S A st.m.aH.length st.m.aH
 tabs:∃A n,p.tv= .slice A c.tables.length n/\bX A c.tables.length n/\bn cV w S A c.tables.length c.tables
 routes:aD bN 9 w 0 xz p.rv st.routes
 scopes:aD XJ 131 w 0 xz p.sv bs
 maps:bs.length=st.scopes.length/\∀(i b:Nat) (s:M.Scope),bs[i]? =some b->st.scopes[i]? =some s->Hb w b s
 apart:bs.Nodup
 mine:∀b,b∈bs->Mu b/\b<w.heap.size/\b≠g/\p.sv.ownBlock≠some b/\p.rv.ownBlock≠some b
 jV:∀b,p.rv.ownBlock=some b->Mu b/\b≠g
 jF:∀b,p.sv.ownBlock=some b->Mu b/\b≠g/\p.rv.ownBlock≠some b
 gM:Mu g
 far:∀b,S b->b<w.heap.size/\¬Mu b
 mu:∀b,Mu b->b<w.heap.size
 vals:∀s:M.Scope,s∈st.scopes->∀(n:ByteArray) (v:M.Val),s n=some v->iF v
 fB:st.routes.length<=4000
 gN:st.scopes.length<=200
 fT:∀t∈c.tables,∀e∈t.entries,e.2.size<=1048576
 mx:0<w.heap.size/\¬Mu 0/\∃m,w.cell? ⟨0,0,none⟩=some (.int .i64 m)
theorem b9.only{w w':World}{g:Nat}{Mu S:Nat->Prop}{c:M.Cx}{st:M.St}{p:PV}{bs:List Nat}(h:b9 w g Mu S c st p bs)(ho:aW g w w'):b9 w' g Mu S c st p bs:=by
 have hS:∀b,S b->b<w.heap.size/\¬b=g:=fun b hb=>⟨(h.far b hb).1,fun e=>(h.far b hb).2 (e▸h.gM)⟩
 have XK:∀b,b<w.heap.size->b≠g->w'.heap[b]? =w.heap[b]? :=ho.block;obtain⟨A,n,e1,e2,e3⟩:=h.msg;obtain⟨A2,n2,f1,f2,f3⟩:=h.tabs;obtain⟨m1,m2,m,m3⟩:=h.mx
 exact⟨h.d,h.now,h.stop,h.jU,⟨A,n,e1,e2,ho.nu e3 hS⟩,⟨A2,n2,f1,f2,ho.nu f3 hS⟩,h.routes.stay ho.size (fun b hb hc=>XK b hb (hc.elim (fun x=>x.elim) (fun x=>(h.jV b x).2))),
  h.scopes.stay ho.size (fun b hb hc=>XK b hb (hc.elim (fun x=>x.elim) (fun x=>(h.jF b x).2.1))),⟨h.maps.1,fun i b s hb hs=>(h.maps.2 i b s hb hs).keep (XK b (h.mine b (m_ hb)).2.1 (h.mine b (m_ hb)).2.2.1)⟩,h.apart,
  fun b hb=>⟨(h.mine b hb).1,l_ (h.mine b hb).2.1 ho.size,(h.mine b hb).2.2⟩,h.jV,h.jF,h.gM,fun b hb=>⟨l_ (h.far b hb).1 ho.size,(h.far b hb).2⟩,fun b hb=>l_ (h.mu b hb) ho.size,h.vals,h.fB,h.gN,h.fT,
  ⟨l_ m1 ho.size,m2,m,(ho.cell m1 (fun e=>m2 (by rw[show(0:Nat)=g from e];exact h.gM))).trans m3⟩⟩
theorem b9.below{w w':World}{g:Nat}{Mu S:Nat->Prop}{c:M.Cx}{st:M.St}{p:PV}{bs:List Nat}(h:b9 w g Mu S c st p bs)(hb:Below w.heap.size w w'):b9 w' g Mu S c st p bs:=h.only (ax.of hb)
theorem b9.gne{w:World}{g:Nat}{Mu S:Nat->Prop}{c:M.Cx}{st:M.St}{p:PV}{bs:List Nat}(h:b9 w g Mu S c st p bs):∀b,S b->b≠g:=fun b hb e=>(h.far b hb).2 (e▸h.gM)
def M.cut{α:Type}(F u:Nat)(r:Except Int α×Nat):Except Int α×Nat:=if u+r.2<=F then(r.1,u+r.2) else(.error 83,F)
theorem vr(w:World)(g:Nat)(p:PV)(F u:Nat)(hF:F<=2000)(hu:u<=F)(hk:ar w g 64 #[.int .u8 (p.d.f.toNat:Int),.int .u8 (p.d.c.toNat:Int),.int .u8 (p.d.r.toNat:Int),.int .u8 (p.d.e.toNat:Int),.int .u8 (p.d.s.toNat:Int),p.v,p.tv,.string p.now,.int .i64 (F:Nat),.int .i64 (u:Nat),p.rv,.bool p.stop,p.sv]):
 Calls Tryz.prog 75 #[.pointer (some ⟨g,0,none⟩)] w fun e w'=>(u<F/\e= .returned (.tuple #[])/\aW g w w'/\ar w' g 64 #[.int .u8 (p.d.f.toNat:Int),.int .u8 (p.d.c.toNat:Int),.int .u8 (p.d.r.toNat:Int),.int .u8 (p.d.e.toNat:Int),.int .u8 (p.d.s.toNat:Int),p.v,p.tv,.string p.now,.int .i64 (F:Nat),.int .i64 ((u+1):Nat),p.rv,.bool p.stop,p.sv])\/(u=F/\e=dt 83/\Below w.heap.size w w'):=by
 have HB:=q_ hk;clear hk;by_cases h:u=F
 ·have q1:((u:Int)==(F:Int))=true:=by simp[h]
  have H:=q_ h;clear h;go_enter Tryz.func75,Tryz.ntmps75;go_wp2_with fail;refine aO 9 [] aj (fun _=>none) (by kernel_rfl) (by kernel_rfl) aj.refl (by simp) (aj.draw _) aj.trans (fun j φ v x y hB=>by cases hB) ?_
  iterate 9
   apply au rfl rfl
   ·intro vs wx hk K hK
    have c0:=fun i=>(HB.o.stays hk.1).cell i;go_simp;exact hK _ (aj.refl _)
   intro KK af;go_simp;refine af _ ?_;clear af KK
  refine bg ?_;intro vs w4 yb _;intro KK af;simp only[List.drop_succ_cons,List.drop_zero];go_wp2;exact⟨rfl,.inr ⟨H.o,rfl,yb⟩⟩
 ·have q1:((u:Int)==(F:Int))=false:=by simp;omega
  have H:=q_ (show u<F by omega);clear h;go_enter Tryz.func75,Tryz.ntmps75;go_wp2_with fail;refine aO 9 [] aj (fun _=>none) (by kernel_rfl) (by kernel_rfl) aj.refl (by simp) (aj.draw _) aj.trans (fun j φ v x y hB=>by cases hB) ?_
  iterate 9
   apply au rfl rfl
   ·intro vs wx hk K hK
    have c0:=fun i=>(HB.o.stays hk.1).cell i;go_simp;exact hK _ (aj.refl _)
   intro KK af;go_simp;refine af _ ?_;clear af KK
  refine bg ?_;intro vs w4 yb _;intro KK af;simp only[List.drop_succ_cons,List.drop_zero];have B4:=q_ (HB.o.stays yb);have z:=B4.o.cell;have zf:=B4.o.frozen;go_wp2;go_end0;exact .inl ⟨H.o,rfl,(ax.of yb).grown (fun _=>rfl) (aV w4 g 9 _),B4.o.fK 9 (.int .i64 ((u:Int)+1))⟩
end
section
open Go Go.RowKit
namespace M
def jo(c:Cx)(m:dQ)(scopes:List Scope)(d:Nat)(x:Node)(ks:List Tree):Except Int Val×Nat:=
 match cz (aL c m scopes d) (if fO x.text=true then ks.tail else ks) with
 |(.error e,k)=>(.error e,k)
 |(.ok vs,k)=>(nV c m x.text (bl ks) (if fO x.text=true then cW::vs else vs),k)
theorem Hc{c:Cx}{m:dQ}{scopes:List Scope}{d:Nat}{x:Node}{ks:List Tree}(h:x.op=23):aL c m scopes (d+1) (.mk x ks)=((jo c m scopes d x ks).1,(jo c m scopes d x ks).2+1):=by
 conv=>lhs;unfold aL
 rw[if_neg (by omega),if_neg (by omega),if_neg (by omega),if_neg (by omega),if_neg (by omega),if_pos h];unfold jo;split
 ·rename_i e k h1;rw[h1]
 ·rename_i vs k h1;rw[h1]
theorem He(c:Cx)(m:dQ)(scopes:List Scope)(d:Nat)(x:Node)(ks:List Tree):1<=(aL c m scopes (d+1) (.mk x ks)).2:=by
 unfold aL;split
 ·exact n_
 ·split
  ·exact n_
  ·split
   ·exact n_
   ·split
    ·exact n_
    ·split
     ·exact n_
     ·split
      ·split<;>simp
      ·split
       ·simp
       ·split
        ·simp
        ·split
         ·simp
         ·split<;>simp
def pre(vs:List Val)(K:Nat):Except Int (List Val)×Nat->Except Int (List Val)×Nat
 |(.error e,j)=>(.error e,K+j)
 |(.ok l,j)=>(.ok (vs++l),K+j)
theorem pre_nil(r:Except Int (List Val)×Nat):pre [] 0 r=r:=by
 obtain⟨r,j⟩:=r;cases r<;>simp[pre]
theorem TU(vs:List Val)(K:Nat)(f:Tree->Except Int Val×Nat):pre vs K (cz f [])=(.ok vs,K):=by
 unfold cz pre;simp
theorem Pr{vs:List Val}{K k:Nat}{f:Tree->Except Int Val×Nat}{t:Tree}{l:List Tree}{v:Val}(h:f t=(.ok v,k)):pre vs K (cz f (t::l))=pre (vs++[v]) (K+k) (cz f l):=by
 conv=>lhs;unfold cz
 rw[h];cases hl:cz f l with
 |mk r j=>
  cases r with
  |error e=>simp[pre];omega
  |ok l'=>simp[pre];omega
theorem Jy{vs:List Val}{K k:Nat}{f:Tree->Except Int Val×Nat}{t:Tree}{l:List Tree}{e:Int}(h:f t=(.error e,k)):pre vs K (cz f (t::l))=(.error e,K+k):=by
 conv=>lhs;unfold cz
 rw[h];rfl
theorem Ps{vs:List Val}{K k:Nat}{f:Tree->Except Int Val×Nat}{t:Tree}{l:List Tree}{r:Except Int Val}(h:f t=(r,k)):K+k<=(pre vs K (cz f (t::l))).2:=by
 cases r with
 |error e=>rw[Jy h];exact n_
 |ok v=>
  rw[Pr h];cases cz f l with
  |mk r j=>cases r<;>simp[pre]
theorem TV(c:Cx)(m:dQ)(scopes:List Scope)(d:Nat)(x:Node)(ks:List Tree):(jo c m scopes d x ks).2=(cz (aL c m scopes d) (if fO x.text=true then ks.tail else ks)).2:=by
 unfold jo;split<;>(rename_i h;rw[h])
theorem bZ{α:Type}{F u:Nat}{r:Except Int α×Nat}(h:u+r.2<=F):cut F u r=(r.1,u+r.2):=if_pos h
theorem eQ{α:Type}{F u:Nat}{r:Except Int α×Nat}(h:¬u+r.2<=F):cut F u r=(.error 83,F):=if_neg h
theorem pR{α:Type}{F u:Nat}{r:Except Int α×Nat}(h:u<F):cut F u (r.1,r.2+1)=cut F (u+1) r:=by
 unfold cut;by_cases hq:u+1+r.2<=F
 ·rw[if_pos hq,if_pos (by show u+(r.2+1)<=F;omega),show u+(r.2+1)=u+1+r.2 by omega]
 ·rw[if_neg hq,if_neg (by show¬u+(r.2+1)<=F;omega)]
theorem DD{α:Type}{F:Nat}{r:Except Int α×Nat}:cut F F (r.1,r.2+1)=(.error 83,F):=if_neg (by show¬F+(r.2+1)<=F;omega)
end M
theorem Ls(c:M.Cx)(m:M.dQ)(scopes:List M.Scope)(d:Nat)(x:M.Node)(ks:List M.Tree):1<=(M.aL c m scopes (d+1) (.mk x ks)).2:=M.He c m scopes d x ks
end
section
open Go Go.RowKit Go.BigFrame
theorem Lt:Tryz.prog.stoodInHeld 129=false:=by kernel_rfl
theorem DF:∃g0 g1 g2 g3 g4:Field,Tryz.prog.underlying 129=some (.struct #[g0,g1,g2,g3,g4])/\(g0.type=3/\g0.offset=0/\(g0.name≠ "_"))/\(g1.type=3/\g1.offset=1/\(g1.name≠ "_"))/\(g2.type=9/\g2.offset=2/\(g2.name≠ "_"))/\(g3.type=3/\g3.offset=3/\(g3.name≠ "_"))/\(g4.type=127/\g4.offset=4/\(g4.name≠ "_")):=
 ⟨_,_,_,_,_,Tryz.underlying129,⟨rfl,rfl,by decide⟩,⟨rfl,rfl,by decide⟩,⟨rfl,rfl,by decide⟩,⟨rfl,rfl,by decide⟩,⟨rfl,rfl,by decide⟩⟩
def vt(p q:M.Path):Bool:=M.bJ p.aN q.aN&&decide (p.aP=q.aP/\p.aR=q.aR/\p.rep=q.rep/\p.comp=q.comp/\p.sub=q.sub)
def vu(x y:M.Node):Bool:=decide (x.op=y.op/\x.n=y.n)&&M.bJ x.text y.text&&decide (x.num=y.num)&&vt x.path y.path
theorem vw(p q:M.Path):vt p q=true<->p=q:=by
 obtain⟨s,o,a,b,c,d⟩:=p;obtain⟨s',o',a',b',c',d'⟩:=q;unfold vt;rw[Bool.and_eq_true,iz,decide_eq_true_iff];simp
theorem Pt(x y:M.Node)(W:World):(binOp .neq 129 (.agg #[.int .i64 x.op,.int .i64 x.n,.string x.text,.int .i64 x.num,.string x.path.aN,.int .i64 x.path.aP,.int .i64 x.path.aR,.int .i64 x.path.rep,.int .i64 x.path.comp,.int .i64 x.path.sub]) (.agg #[.int .i64 y.op,.int .i64 y.n,.string y.text,.int .i64 y.num,.string y.path.aN,.int .i64 y.path.aP,.int .i64 y.path.aR,.int .i64 y.path.rep,.int .i64 y.path.comp,.int .i64 y.path.sub])).run Tryz.prog W= .ok (.bool (!vu x y)) W:=by
 obtain⟨g0,g1,g2,g3,g4,hu,⟨t0,o0,n0⟩,⟨t1,o1,n1⟩,⟨t2,o2,n2⟩,⟨t3,o3,n3⟩,⟨t4,o4,n4⟩⟩:=DF;have hf:Tryz.prog.fieldsOf 129=#[g0,g1,g2,g3,g4]:=by simp[Program.fieldsOf,hu]
 obtain⟨op,n,text,num,⟨s,o,a,b,c,d⟩⟩:=x;obtain⟨op',n',Pu,jaD,⟨s',o',a',b',c',d'⟩⟩:=y;have hsz:Tryz.prog.cellsOf 127=6:=uZ;rw[run_neq_struct,run_equalIn_struct W 9999 _ _ _ (by rw[hu,hf]) Lt,hf];have hq:=fy text Pu;unfold vu;by_cases h0:op=op';rotate_left
 ·simp[Op.eqFields,n0,t0,o0,go_sem,h0]
 by_cases h1:n=n';rotate_left
 ·simp[Op.eqFields,n0,n1,t0,t1,o0,o1,go_sem,h0,h1]
 cases hs:M.bJ text Pu
 ·rw[hs] at hq
  simp[Op.eqFields,n0,n1,n2,t0,t1,t2,o0,o1,o2,go_sem,h0,h1,hq]
 rw[hs] at hq;by_cases h3:num=jaD;rotate_left
 ·simp[Op.eqFields,n0,n1,n2,n3,t0,t1,t2,t3,o0,o1,o2,o3,go_sem,hq,h0,h1,h3]
 cases hpe:vt ⟨s,o,a,b,c,d⟩ ⟨s',o',a',b',c',d'⟩
 ·simp[Op.eqFields,n0,n1,n2,n3,n4,t0,t1,t2,t3,t4,o0,o1,o2,o3,o4,go_sem,hq,h0,h1,h3]
  intro e0 e1 e2 e3 e4 e5;have e6:M.bJ s s'=true:=by rw[<-fy];simp[e0]
  unfold vt at hpe;simp[e6,e1,e2,e3,e4,e5] at hpe
 ·obtain e:=(vw _ _).1 hpe
  injection e with e0 e1 e2 e3 e4 e5;subst e0 e1 e2 e3 e4 e5;simp[Op.eqFields,n0,n1,n2,n3,n4,t0,t1,t2,t3,t4,o0,o1,o2,o3,o4,go_sem,hq,h0,h1,h3]
theorem Hf(x y:M.Node):vu x y=true<->x=y:=by
 obtain⟨op,n,text,num,p⟩:=x;obtain⟨op',n',Pu,jaD,p'⟩:=y;unfold vu;rw[Bool.and_eq_true,Bool.and_eq_true,Bool.and_eq_true,iz,vw,decide_eq_true_iff,decide_eq_true_iff];simp[and_assoc]
theorem DG(x:M.Node):vu x (M.ir x)=M.qT x:=by
 rw[Bool.eq_iff_iff,Hf,M.G0]
def eo(x:M.Node):Bool:=if x.op=2 then M.bM x.path&&decide (0<x.path.aR)
 else if x.op=3\/x.op=11 then M.bM x.path
 else if x.op=4\/x.op=12\/x.op=23 then M.lO x.text
 else if x.op=5\/x.op=7 then decide (x.text.size<=4096)
 else if x.op=8 then decide (0<=x.num/\x.num<=2147483647)
 else true
theorem Pv(x:M.Node):M.right x=(M.qT x&&decide (M.cd x.op<=x.n)&&(decide (M.nR x.op<0)||decide (x.n<=M.nR x.op))&&eo x):=rfl
theorem Lu(x:M.Node)(hx:x.jd)(w:World):Calls Tryz.prog 181 #[.agg #[.int .i64 x.op,.int .i64 x.n,.string x.text,.int .i64 x.num,.string x.path.aN,.int .i64 x.path.aP,.int .i64 x.path.aR,.int .i64 x.path.rep,.int .i64 x.path.comp,.int .i64 x.path.sub]] w fun e w'=>e= .returned (.bool (M.right x))/\Below w.heap.size w w':=by
 obtain⟨w1,bu⟩:∃w1,w1=w.alloc (.cells #[.int .i64 x.op,.int .i64 x.n,.string x.text,.int .i64 x.num,.string x.path.aN,.int .i64 x.path.aP,.int .i64 x.path.aR,.int .i64 x.path.rep,.int .i64 x.path.comp,.int .i64 x.path.sub] 129):=⟨_,rfl⟩
 have E1:=q_ (show ar w1 w.heap.size 129 #[.int .i64 x.op,.int .i64 x.n,.string x.text,.int .i64 x.num,.string x.path.aN,.int .i64 x.path.aP,.int .i64 x.path.aR,.int .i64 x.path.rep,.int .i64 x.path.comp,.int .i64 x.path.sub] from bu▸ar.new w _ _);have B1:=q_ (show Below w.heap.size w w1 from bu▸(Below.refl _ w).alloc (n_) _);have s1:w1.heap.size=w.heap.size+1:=by rw[bu];simp
 have KB:=q_ (OZ x w1);have KP:=q_ (fun(W:World)=>gp x.path W hx.2.2.2.2.1);have KN:=q_ (fun(W:World)=>AH x.text W hx.2.2.1);have HR:=q_ (Pv x);have yF:x.text.size<=1048576:=hx.2.2.1;have te:=Pt x (M.ir x);rw[DG] at te;generalize hb0:M.qT x=b0 at*;generalize hy:M.ir x=y at*;generalize hl0:M.cd x.op=least at*;generalize FA:M.nR x.op=most at*
 have KB2:=q_ (show Calls Tryz.prog 254 #[.agg #[.int .i64 x.op,.int .i64 x.n,.string x.text,.int .i64 x.num,.string x.path.aN,.int .i64 x.path.aP,.int .i64 x.path.aR,.int .i64 x.path.rep,.int .i64 x.path.comp,.int .i64 x.path.sub]] w1 fun e w'=>e= .returned (.tuple #[.agg #[.int .i64 y.op,.int .i64 y.n,.string y.text,.int .i64 y.num,.string y.path.aN,.int .i64 y.path.aP,.int .i64 y.path.aR,.int .i64 y.path.rep,.int .i64 y.path.comp,.int .i64 y.path.sub],.int .i64 least,.int .i64 most])/\Below w1.heap.size w1 w' from by
  have:=KB.o;unfold Ju at this
  rwa [hl0,FA,hy] at this)
 clear KB hb0 hy hl0 FA hx;have z1:=E1.o.cell;go_enter Tryz.func181,Tryz.ntmps181;go_wp2_with fail;rw[<-bu];clear bu;refine KB2.o.mono ?_;rintro e w2 ⟨rfl,hb⟩;have B2:=q_ (B1.o.trans (hb.mono (by omega)));have E2:=q_ ((E1.o.below hb (by omega)).alloc (.cells #[.int .i64 0,.int .i64 0,.string ⟨#[]⟩,.int .i64 0,.string ⟨#[]⟩,.int .i64 0,.int .i64 0,.int .i64 0,.int .i64 0,.int .i64 0] 129));have F2:=q_ (ar.new w2 129 #[.int .i64 0,.int .i64 0,.string ⟨#[]⟩,.int .i64 0,.string ⟨#[]⟩,.int .i64 0,.int .i64 0,.int .i64 0,.int .i64 0,.int .i64 0]);have hs2:=hb.size;clear hb z1
 have HD:(b0=false)\/(b0=true/\x.n<least)\/(b0=true/\¬x.n<least/\0<=most/\most<x.n)\/(b0=true/\¬x.n<least/\¬0<=most)\/(b0=true/\¬x.n<least/\0<=most/\¬most<x.n):=by
  cases b0<;>simp<;>omega
 rcases HD with h|⟨h,h1⟩|⟨h,h1,h2,h3⟩|⟨h,h1,h2⟩|⟨h,h1,h2,h3⟩
 all_goals subst h
 rotate_left 3
 iterate 2
  have q1:decide (x.n<least)=false:=by simp;omega
  first|have q2:decide (0<=most)=false:=by simp;omega|have q2:decide (0<=most)=true:=by simp;omega
  try have q3:decide (most<x.n)=false:=by simp;omega
  have HK:=q_ (show M.right x=eo x by rw[HR.o,decide_eq_true (p:=least<=x.n) (by omega)];first|(rw[decide_eq_true (p:=most<0) (by omega)];simp;done)|(rw[decide_eq_true (p:=x.n<=most) (by omega)];simp));clear HR h1 h2
  try clear h3
  have hop:x.op=2\/x.op=3\/x.op=11\/x.op=4\/x.op=12\/x.op=23\/x.op=5\/x.op=7\/(x.op=8/\0<=x.num)\/(x.op=8/\x.num<0)\/(x.op≠2/\x.op≠3/\x.op≠11/\x.op≠4/\x.op≠12/\x.op≠23/\x.op≠5/\x.op≠7/\x.op≠8):=by omega
  rcases hop with ho|ho|ho|ho|ho|ho|ho|ho|ho|ho|ho
  iterate 11
   first|have p2:(x.op==2)=true:=by simp;omega|have p2:(x.op==2)=false:=by simp;omega
   first|have p3:(x.op==3)=true:=by simp;omega|have p3:(x.op==3)=false:=by simp;omega
   first|have p11:(x.op==11)=true:=by simp;omega|have p11:(x.op==11)=false:=by simp;omega
   first|have p4:(x.op==4)=true:=by simp;omega|have p4:(x.op==4)=false:=by simp;omega
   first|have p12:(x.op==12)=true:=by simp;omega|have p12:(x.op==12)=false:=by simp;omega
   first|have p23:(x.op==23)=true:=by simp;omega|have p23:(x.op==23)=false:=by simp;omega
   first|have p5:(x.op==5)=true:=by simp;omega|have p5:(x.op==5)=false:=by simp;omega
   first|have p7:(x.op==7)=true:=by simp;omega|have p7:(x.op==7)=false:=by simp;omega
   first|have p8:(x.op==8)=true:=by simp;omega|have p8:(x.op==8)=false:=by simp;omega
   first|have r1:decide (0<=x.num)=true:=by simp;omega|have r1:decide (0<=x.num)=false:=by simp;omega|skip
   first
   |have HV:=q_ (show eo x=(M.bM x.path&&decide (0<x.path.aR)) by unfold eo;rw[if_pos (by omega)])
   |have HV:=q_ (show eo x=M.bM x.path by unfold eo;rw[if_neg (by omega),if_pos (by omega)])
   |have HV:=q_ (show eo x=M.lO x.text by unfold eo;rw[if_neg (by omega),if_neg (by omega),if_pos (by omega)])
   |have HV:=q_ (show eo x=decide ((x.text.size:Int)<=4096) by unfold eo;rw[if_neg (by omega),if_neg (by omega),if_neg (by omega),if_pos (by omega)];simp;omega)
   |have HV:=q_ (show eo x=decide (x.num<=2147483647) by unfold eo;rw[if_neg (by omega),if_neg (by omega),if_neg (by omega),if_neg (by omega),if_pos ho.1];simp;omega)
   |have HV:=q_ (show eo x=false by unfold eo;rw[if_neg (by omega),if_neg (by omega),if_neg (by omega),if_neg (by omega),if_pos ho.1];simp;omega)
   |have HV:=q_ (show eo x=true by unfold eo;rw[if_neg (by omega),if_neg (by omega),if_neg (by omega),if_neg (by omega),if_neg (by omega)])
   have HF:=q_ (HK.o.trans HV.o);clear ho;rotate_left
 iterate 3
  first|have q1:decide (x.n<least)=true:=by simp;omega|have q1:decide (x.n<least)=false:=by simp;omega|skip
  try have q2:decide (0<=most)=true:=by simp;omega
  try have q3:decide (most<x.n)=true:=by simp;omega
  have HF:=q_ (show M.right x=false by rw[HR.o];first|(simp;done)|(simp;omega)|(rw[decide_eq_false (p:=most<0) (by omega),decide_eq_false (p:=x.n<=most) (by omega)];simp));rotate_left
 all_goals
  go_wp2_with (refine ah (cs':=#[.int .i64 y.op,.int .i64 y.n,.string y.text,.int .i64 y.num,.string y.path.aN,.int .i64 y.path.aP,.int .i64 y.path.aR,.int .i64 y.path.rep,.int .i64 y.path.comp,.int .i64 y.path.sub]) rfl 129 (.tmp 3) (.tmp 9) rfl w2.heap.size (by rfl) (by rfl) F2.o rfl (by kernel_rfl) (by simp[Value.oneCell']) ?_;intro w3 k3 g3;have K3:=q_ k3;have E3:=q_ (E2.o.aK g3 (by omega));have B3:=q_ (ai (B2.o.alloc B2.o.size (.cells #[.int .i64 0,.int .i64 0,.string ⟨#[]⟩,.int .i64 0,.string ⟨#[]⟩,.int .i64 0,.int .i64 0,.int .i64 0,.int .i64 0,.int .i64 0] 129)) g3 (by have:=B2.o.size;omega));have z3:=E3.o.cell;have y3:=K3.o.cell;clear k3 g3)
  first
  |go_ret
   exact⟨by first|exact congrArg (fun b=>Ending.returned (.bool b)) HF.o.symm|(rw[HF.o];simp),B3.o⟩
  |refine(KN.o _).mono ?_
   rintro e w4 ⟨rfl,hb⟩;have B4:=q_ (B3.o.trans (hb.mono B3.o.size));clear hb;go_wp2;go_ret;exact⟨congrArg (fun b=>Ending.returned (.bool b)) HF.o.symm,B4.o⟩
  |refine(KP.o _).mono ?_
   rintro e w4 ⟨rfl,hb⟩;have B4:=q_ (B3.o.trans (hb.mono B3.o.size));have z4:=(E3.o.below hb E3.o.lt).cell;clear hb
   first
   |go_wp2
    go_ret;exact⟨congrArg (fun b=>Ending.returned (.bool b)) HF.o.symm,B4.o⟩
   |cases hv:M.bM x.path
    all_goals
     rw[hv] at HF;go_wp2;go_ret;exact⟨congrArg (fun b=>Ending.returned (.bool b)) HF.o.symm,B4.o⟩
end
section
open Go Go.RowKit Go.BigFrame Go.Maps Go.WideMaps
theorem De:Tryz.prog.stoodInHeld 33=false:=by kernel_rfl
theorem uV:∃g0 g1 g2 g3:Field,Tryz.prog.underlying 33=some (.struct #[g0,g1,g2,g3])/\(g0.type=3/\g0.offset=0/\(g0.name≠ "_"))/\(g1.type=9/\g1.offset=1/\(g1.name≠ "_"))/\(g2.type=3/\g2.offset=2/\(g2.name≠ "_"))/\(g3.type=4/\g3.offset=3/\(g3.name≠ "_")):=
 ⟨_,_,_,_,Tryz.underlying33,⟨rfl,rfl,by decide⟩,⟨rfl,rfl,by decide⟩,⟨rfl,rfl,by decide⟩,⟨rfl,rfl,by decide⟩⟩
theorem yG(x y:M.Val)(W:World):(Op.equalIn 10000 33 (.agg #[.int .i64 x.kind,.string x.text,.int .i64 x.num,.bool x.truth]) (.agg #[.int .i64 y.kind,.string y.text,.int .i64 y.num,.bool y.truth])).run Tryz.prog W= .ok (M.SA x y) W:=by
 obtain⟨g0,g1,g2,g3,hu,⟨t0,o0,n0⟩,⟨t1,o1,n1⟩,⟨t2,o2,n2⟩,⟨t3,o3,n3⟩⟩:=uV;have hf:Tryz.prog.fieldsOf 33=#[g0,g1,g2,g3]:=by simp[Program.fieldsOf,hu]
 obtain⟨k,s,n,b⟩:=x;obtain⟨k',s',n',b'⟩:=y;rw[run_equalIn_struct W 9999 _ _ _ (by rw[hu,hf]) De,hf];have hq:=fy s s';unfold M.SA;by_cases h0:k=k';rotate_left
 ·simp[Op.eqFields,n0,t0,o0,go_sem,h0]
 cases hs:M.bJ s s'
 ·rw[hs] at hq
  simp[Op.eqFields,n0,n1,t0,t1,o0,o1,go_sem,h0,hq]
 rw[hs] at hq;by_cases h2:n=n';rotate_left
 ·simp[Op.eqFields,n0,n1,n2,t0,t1,t2,o0,o1,o2,go_sem,hq,h0,h2]
 by_cases h3:b=b'
 ·simp[Op.eqFields,n0,n1,n2,n3,t0,t1,t2,t3,o0,o1,o2,o3,go_sem,hq,h0,h2,h3]
 ·simp[Op.eqFields,n0,n1,n2,n3,t0,t1,t2,t3,o0,o1,o2,o3,go_sem,hq,h0,h2,h3]
theorem XL(x y:M.Val)(W:World):(binOp .eql 33 (.agg #[.int .i64 x.kind,.string x.text,.int .i64 x.num,.bool x.truth]) (.agg #[.int .i64 y.kind,.string y.text,.int .i64 y.num,.bool y.truth])).run Tryz.prog W= .ok (.bool (M.SA x y)) W:=by
 have h:=yG x y W;rw[run_eql_struct,h];rfl
theorem TW(x y:M.Val)(W:World):(binOp .neq 33 (.agg #[.int .i64 x.kind,.string x.text,.int .i64 x.num,.bool x.truth]) (.agg #[.int .i64 y.kind,.string y.text,.int .i64 y.num,.bool y.truth])).run Tryz.prog W= .ok (.bool (!M.SA x y)) W:=by
 have h:=yG x y W;rw[run_neq_struct,h];rfl
theorem TX(op:Int)(a b:M.Val)(ha:iF a)(hb:iF b)(w:World):Calls Tryz.prog 167 #[.int .i64 op,.agg #[.int .i64 a.kind,.string a.text,.int .i64 a.num,.bool a.truth],.agg #[.int .i64 b.kind,.string b.text,.int .i64 b.num,.bool b.truth]] w fun e w'=>e=dD (M.gY op a b)/\Below w.heap.size w w':=by
 have s1:((w.alloc (.cells #[.int .i64 a.kind,.string a.text,.int .i64 a.num,.bool a.truth] 33)).alloc (.cells #[.int .i64 b.kind,.string b.text,.int .i64 b.num,.bool b.truth] 33)).heap.size=w.heap.size+2:=by simp
 have s2:(w.alloc (.cells #[.int .i64 a.kind,.string a.text,.int .i64 a.num,.bool a.truth] 33)).heap.size=w.heap.size+1:=by simp
 have A1:=q_ (((ar.new w 33 #[.int .i64 a.kind,.string a.text,.int .i64 a.num,.bool a.truth]).alloc (.cells #[.int .i64 b.kind,.string b.text,.int .i64 b.num,.bool b.truth] 33)).alloc (.cells #[.int .i64 0,.string ⟨#[]⟩,.int .i64 0,.bool false] 33));have C1:=q_ (s2▸(ar.new (w.alloc (.cells #[.int .i64 a.kind,.string a.text,.int .i64 a.num,.bool a.truth] 33)) 33 #[.int .i64 b.kind,.string b.text,.int .i64 b.num,.bool b.truth]).alloc (.cells #[.int .i64 0,.string ⟨#[]⟩,.int .i64 0,.bool false] 33));have B1:=q_ ((((Below.refl _ w).alloc (n_) (.cells #[.int .i64 a.kind,.string a.text,.int .i64 a.num,.bool a.truth] 33)).alloc (by simp) (.cells #[.int .i64 b.kind,.string b.text,.int .i64 b.num,.bool b.truth] 33)).alloc (by simp;omega) (.cells #[.int .i64 0,.string ⟨#[]⟩,.int .i64 0,.bool false] 33));have K1:=q_ (ar.new ((w.alloc (.cells #[.int .i64 a.kind,.string a.text,.int .i64 a.num,.bool a.truth] 33)).alloc (.cells #[.int .i64 b.kind,.string b.text,.int .i64 b.num,.bool b.truth] 33)) 33 #[.int .i64 0,.string ⟨#[]⟩,.int .i64 0,.bool false]);rw[s1] at K1;have te:=XL a b;have tn:=TW a b;have KO:=q_ (fun W=>Lp a b ha hb W)
 have KP:=q_ (fun W=>Po a b ha hb W);clear ha hb;by_cases h:op=15
 ·have HS:=q_ (show M.gY op a b= .ok (M.bk (M.SA a b)) by unfold M.gY;rw[if_pos h])
  have ZJ:(op==15)=true:=by simp[h]
  clear h;go_enter Tryz.func167,Tryz.ntmps167;go_wp2_with fail;refine(cm _ _).mono ?_
  rintro e w2 ⟨rfl,hb⟩;have B2:=q_ (B1.o.trans (hb.mono B1.o.size));have K2:=q_ (K1.o.below hb K1.o.lt);clear hb;go_wp2_with (refine aq rfl (.tmp 6) (.tmp 13) rfl (w.heap.size+2) (M.bk (M.SA a b)) (by rfl) (by rfl) (K2.o) rfl ?_;intro w3 k3 g3;have K3:=q_ k3;have B3:=q_ (ai B2.o g3 (by omega));clear k3 g3)
  (try simp only[Exit.inBlock,Exit.then]);exact bodyPost_ret (aT rfl K3.o rfl) rfl ⟨by rw[HS.o];rfl,B3.o⟩
 have h15:=h;clear h;by_cases h:op=16
 ·have HS:=q_ (show M.gY op a b= .ok (M.bk (!M.SA a b)) by unfold M.gY;rw[if_neg (by omega),if_pos h])
  have ZJ:(op==15)=false:=by simp;omega
  have q16:(op==16)=true:=by simp[h]
  clear h;go_enter Tryz.func167,Tryz.ntmps167;go_wp2_with fail;refine(cm _ _).mono ?_
  rintro e w2 ⟨rfl,hb⟩;have B2:=q_ (B1.o.trans (hb.mono B1.o.size));have K2:=q_ (K1.o.below hb K1.o.lt);clear hb;go_wp2_with (refine aq rfl (.tmp 6) (.tmp 19) rfl (w.heap.size+2) (M.bk (!M.SA a b)) (by rfl) (by rfl) (K2.o) rfl ?_;intro w3 k3 g3;have K3:=q_ k3;have B3:=q_ (ai B2.o g3 (by omega));clear k3 g3)
  (try simp only[Exit.inBlock,Exit.then]);exact bodyPost_ret (aT rfl K3.o rfl) rfl ⟨by rw[HS.o];rfl,B3.o⟩
 have h16:=h;clear h;by_cases h:op=17
 ·have HS:=q_ (show M.gY op a b= .ok (M.bk (decide (M.order a b<0))) by unfold M.gY;rw[if_neg (by omega),if_neg (by omega),if_pos h])
  have ZJ:(op==15)=false:=by simp;omega
  have q16:(op==16)=false:=by simp;omega
  have q17:(op==17)=true:=by simp[h]
  clear h;go_enter Tryz.func167,Tryz.ntmps167;go_wp2_with fail;refine(KO.o _).mono ?_
  rintro e w1 ⟨rfl,hb⟩;have Pw:=q_ (B1.o.trans (hb.mono B1.o.size));have Px:=q_ (K1.o.below hb K1.o.lt);clear hb;go_wp2_with fail;refine(cm _ _).mono ?_
  rintro e w2 ⟨rfl,hb⟩;have B2:=q_ (Pw.o.trans (hb.mono Pw.o.size));have K2:=q_ (Px.o.below hb Px.o.lt);clear hb;go_wp2_with (refine aq rfl (.tmp 6) (.tmp 26) rfl (w.heap.size+2) (M.bk (decide (M.order a b<0))) (by rfl) (by rfl) (K2.o) rfl ?_;intro w3 k3 g3;have K3:=q_ k3;have B3:=q_ (ai B2.o g3 (by omega));clear k3 g3)
  (try simp only[Exit.inBlock,Exit.then]);exact bodyPost_ret (aT rfl K3.o rfl) rfl ⟨by rw[HS.o];rfl,B3.o⟩
 have h17:=h;clear h;by_cases h:op=18
 ·have HS:=q_ (show M.gY op a b= .ok (M.bk (decide (M.order a b<=0))) by unfold M.gY;rw[if_neg (by omega),if_neg (by omega),if_neg (by omega),if_pos h])
  have ZJ:(op==15)=false:=by simp;omega
  have q16:(op==16)=false:=by simp;omega
  have q17:(op==17)=false:=by simp;omega
  have q18:(op==18)=true:=by simp[h]
  clear h;go_enter Tryz.func167,Tryz.ntmps167;go_wp2_with fail;refine(KO.o _).mono ?_
  rintro e w1 ⟨rfl,hb⟩;have Pw:=q_ (B1.o.trans (hb.mono B1.o.size));have Px:=q_ (K1.o.below hb K1.o.lt);clear hb;go_wp2_with fail;refine(cm _ _).mono ?_
  rintro e w2 ⟨rfl,hb⟩;have B2:=q_ (Pw.o.trans (hb.mono Pw.o.size));have K2:=q_ (Px.o.below hb Px.o.lt);clear hb;go_wp2_with (refine aq rfl (.tmp 6) (.tmp 33) rfl (w.heap.size+2) (M.bk (decide (M.order a b<=0))) (by rfl) (by rfl) (K2.o) rfl ?_;intro w3 k3 g3;have K3:=q_ k3;have B3:=q_ (ai B2.o g3 (by omega));clear k3 g3)
  (try simp only[Exit.inBlock,Exit.then]);exact bodyPost_ret (aT rfl K3.o rfl) rfl ⟨by rw[HS.o];rfl,B3.o⟩
 have h18:=h;clear h;by_cases h:op=19
 ·have HS:=q_ (show M.gY op a b= .ok (M.bk (decide (0<M.order a b))) by unfold M.gY;rw[if_neg (by omega),if_neg (by omega),if_neg (by omega),if_neg (by omega),if_pos h])
  have ZJ:(op==15)=false:=by simp;omega
  have q16:(op==16)=false:=by simp;omega
  have q17:(op==17)=false:=by simp;omega
  have q18:(op==18)=false:=by simp;omega
  have q19:(op==19)=true:=by simp[h]
  clear h;go_enter Tryz.func167,Tryz.ntmps167;go_wp2_with fail;refine(KO.o _).mono ?_
  rintro e w1 ⟨rfl,hb⟩;have Pw:=q_ (B1.o.trans (hb.mono B1.o.size));have Px:=q_ (K1.o.below hb K1.o.lt);clear hb;go_wp2_with fail;refine(cm _ _).mono ?_
  rintro e w2 ⟨rfl,hb⟩;have B2:=q_ (Pw.o.trans (hb.mono Pw.o.size));have K2:=q_ (Px.o.below hb Px.o.lt);clear hb;go_wp2_with (refine aq rfl (.tmp 6) (.tmp 40) rfl (w.heap.size+2) (M.bk (decide (0<M.order a b))) (by rfl) (by rfl) (K2.o) rfl ?_;intro w3 k3 g3;have K3:=q_ k3;have B3:=q_ (ai B2.o g3 (by omega));clear k3 g3)
  (try simp only[Exit.inBlock,Exit.then]);exact bodyPost_ret (aT rfl K3.o rfl) rfl ⟨by rw[HS.o];rfl,B3.o⟩
 have h19:=h;clear h;by_cases h:op=20
 ·have HS:=q_ (show M.gY op a b= .ok (M.bk (decide (0<=M.order a b))) by unfold M.gY;rw[if_neg (by omega),if_neg (by omega),if_neg (by omega),if_neg (by omega),if_neg (by omega),if_pos h])
  have ZJ:(op==15)=false:=by simp;omega
  have q16:(op==16)=false:=by simp;omega
  have q17:(op==17)=false:=by simp;omega
  have q18:(op==18)=false:=by simp;omega
  have q19:(op==19)=false:=by simp;omega
  have q20:(op==20)=true:=by simp[h]
  clear h;go_enter Tryz.func167,Tryz.ntmps167;go_wp2_with fail;refine(KO.o _).mono ?_
  rintro e w1 ⟨rfl,hb⟩;have Pw:=q_ (B1.o.trans (hb.mono B1.o.size));have Px:=q_ (K1.o.below hb K1.o.lt);clear hb;go_wp2_with fail;refine(cm _ _).mono ?_
  rintro e w2 ⟨rfl,hb⟩;have B2:=q_ (Pw.o.trans (hb.mono Pw.o.size));have K2:=q_ (Px.o.below hb Px.o.lt);clear hb;go_wp2_with (refine aq rfl (.tmp 6) (.tmp 47) rfl (w.heap.size+2) (M.bk (decide (0<=M.order a b))) (by rfl) (by rfl) (K2.o) rfl ?_;intro w3 k3 g3;have K3:=q_ k3;have B3:=q_ (ai B2.o g3 (by omega));clear k3 g3)
  (try simp only[Exit.inBlock,Exit.then]);exact bodyPost_ret (aT rfl K3.o rfl) rfl ⟨by rw[HS.o];rfl,B3.o⟩
 have h20:=h;clear h;have HS:=q_ (show M.gY op a b=M.plusV a b by unfold M.gY;rw[if_neg h15,if_neg h16,if_neg h17,if_neg h18,if_neg h19,if_neg h20]);have ZJ:(op==15)=false:=by simp;omega
 have q16:(op==16)=false:=by simp;omega
 have q17:(op==17)=false:=by simp;omega
 have q18:(op==18)=false:=by simp;omega
 have q19:(op==19)=false:=by simp;omega
 have q20:(op==20)=false:=by simp;omega
 clear h15 h16 h17 h18 h19 h20;go_enter Tryz.func167,Tryz.ntmps167;go_wp2_with fail;refine(KP.o _).mono ?_
 rintro e w2 ⟨he,hb⟩;have B2:=q_ (B1.o.trans (hb.mono B1.o.size));have K2:=q_ (K1.o.below hb K1.o.lt);have ES:=q_ he;clear hb he;cases hr:M.plusV a b with
 |error k=>
  rw[hr] at ES HS;obtain rfl:=ES.o;clear hr;unfold dD dt;go_wp2;exact⟨rfl,by rw[HS.o];rfl,B2.o⟩
 |ok v=>
  rw[hr] at ES HS;obtain rfl:=ES.o;clear hr;unfold dD;go_wp2_with (refine aq rfl (.tmp 6) (.tmp 50) rfl (w.heap.size+2) (v) (by rfl) (by rfl) (K2.o) rfl ?_;intro w3 k3 g3;have K3:=q_ k3;have B3:=q_ (ai B2.o g3 (by omega));clear k3 g3)
  (try simp only[Exit.inBlock,Exit.then]);exact bodyPost_ret (aT rfl K3.o rfl) rfl ⟨by rw[HS.o];rfl,B3.o⟩
def ky(scopes:List M.Scope)(name:ByteArray)(k:Nat):M.Val:=(((scopes.take k).reverse.findSome? fun s=>s name)).getD M.cW
theorem DI(scopes:List M.Scope)(name:ByteArray):ky scopes name scopes.length=M.named scopes name:=by
 unfold ky M.named;rw[List.take_length]
theorem AQ{scopes:List M.Scope}{name:ByteArray}{k:Nat}{s:M.Scope}(h:scopes[k]? =some s):ky scopes name (k+1)=match s name with|some v=>v|none=>ky scopes name k:=by
 unfold ky;rw[List.take_add_one,h,Option.toList_some,List.reverse_append,List.reverse_singleton,List.singleton_append,List.findSome?_cons];cases s name<;>rfl
theorem Jz{w:World}{sv:Value}{bs:List Nat}(h:aD XJ 131 w 0 xz sv bs):∃A n,sv= .slice A bs.length n:=by
 obtain⟨A,n,e⟩:=h.shape;exact⟨A,n,e⟩
theorem Lv(g:Nat)(Mu S:Nat->Prop)(c:M.Cx)(st:M.St)(p:PV)(bs:List Nat)(F u:Nat)(name:ByteArray)(w:World)(hn:name.size<=1048576)(hk:ar w g 64 #[.int .u8 (p.d.f.toNat:Int),.int .u8 (p.d.c.toNat:Int),.int .u8 (p.d.r.toNat:Int),.int .u8 (p.d.e.toNat:Int),.int .u8 (p.d.s.toNat:Int),p.v,p.tv,.string p.now,.int .i64 (F:Nat),.int .i64 (u:Nat),p.rv,.bool p.stop,p.sv])(hp:b9 w g Mu S c st p bs):
 Calls Tryz.prog 165 #[.pointer (some ⟨g,0,none⟩),.string name] w fun e w'=>e= .returned (eh (M.named st.scopes name))/\Below w.heap.size w w':=by
 obtain⟨A,nc,XM⟩:=Jz hp.scopes;have hsc:=hp.scopes;have hlen:=hp.maps.1;have hso:=hp.gN;rw[XM] at hk hsc;have HB:=q_ hk;have Lx:=q_ hsc;have HM:=q_ hp.maps.2;have jaE:=q_ hp.mine;have K1:=q_ (ar.new w 33 #[.int .i64 0,.string ⟨#[]⟩,.int .i64 0,.bool false]);have B1:=q_ ((Below.refl _ w).alloc (n_) (.cells #[.int .i64 0,.string ⟨#[]⟩,.int .i64 0,.bool false] 33));have z:=(hk.alloc (.cells #[.int .i64 0,.string ⟨#[]⟩,.int .i64 0,.bool false] 33)).cell;have nO:=q_ (DI st.scopes name);clear hk hsc hp;go_enter Tryz.func165,Tryz.ntmps165;go_wp2_with fail;generalize w.alloc (.cells #[.int .i64 0,.string ⟨#[]⟩,.int .i64 0,.bool false] 33)=w1 at K1 B1 z⊢;clear z;go_loopw [5] (fun y wr=>∃k:Nat,k<=st.scopes.length/\y= .int .i64 ((k:Int)-1)/\ky st.scopes name k=M.named st.scopes name/\Below w1.heap.size w1 wr) (fun y _=>(intOf y+1).toNat)
 case atStart=>exact⟨st.scopes.length,n_,rfl,nO.o,Below.refl _ _⟩
 case round=>
  obtain⟨k,hk,rfl,hf,hb⟩:=hrel;have HF:=q_ hf;have XN:=q_ hb;have BW:=q_ (B1.o.trans (hb.mono B1.o.size));have KR:=q_ (K1.o.below hb K1.o.lt);clear hf hb;cases k with
  |zero=>
   have HE:=q_ (show M.named st.scopes name=M.cW by rw[<-HF.o];rfl);have q1:decide ((0:Int)<=((0:Nat):Int)-1)=false:=by decide
   go_wp2_with (refine aq rfl (.tmp 4) (.tmp 32) rfl w.heap.size M.cW (by rfl) (by rfl) (KR.o) rfl ?_;intro w3 k3 g3;have K3:=q_ k3;have B3:=q_ (ai BW.o g3 (by omega));clear k3 g3)
   (try simp only[Exit.inBlock,Exit.then]);exact bodyPost_ret (aT rfl K3.o rfl) rfl ⟨by rw[HE.o],B3.o⟩
  |succ k=>
   rw[show((k+1:Nat):Int)-1=(k:Int) by omega];have y:=(HB.o.below BW.o HB.o.lt).cell;have sc:=Lx.o.below BW.o;obtain⟨gs,cap,b,ub,e1,Nu,hbr,rf,-,-⟩:=sc.in1 (k:=k) rfl (by omega);injection e1 with e1 e2 e3;subst e1 e3;obtain⟨e4,-⟩:=hbr;simp at e4;subst e4;obtain⟨s,hs⟩:∃s,st.scopes[k]? =some s:=⟨_,e_ (by omega)⟩
   have XO:=(HM.o k b s Nu hs).below BW.o (jaE.o b (m_ Nu)).2.1;have hl:=XO.look gq Tryz.underlying131 str_inj (gu name hn) (Tryz.zeroValue33 wr) true;have h1:=AQ (name:=name) hs;cases hq:s name with
   |some v=>
    rw[hq] at hl h1;simp only[if_true,Option.map_some,Option.getD_some,Option.isSome_some,eh] at hl;have HE:=q_ (show M.named st.scopes name=v by rw[<-HF.o,h1]);have KR2:=q_ (KR.o.alloc (.cells #[.int .i64 v.kind,.string v.text,.int .i64 v.num,.bool v.truth] 33));have Fy:=q_ (BW.o.alloc BW.o.size (.cells #[.int .i64 v.kind,.string v.text,.int .i64 v.num,.bool v.truth] 33));clear hq h1 sc XO;go_wp2_with (refine aq rfl (.tmp 4) (.tmp 31) rfl w.heap.size v (by rfl) (by rfl) (KR2.o) rfl ?_;intro w3 k3 g3;have K3:=q_ k3;have B3:=q_ (ai Fy.o g3 (by omega));clear k3 g3)
    (try simp only[Exit.inBlock,Exit.then]);exact bodyPost_ret (aT rfl K3.o rfl) rfl ⟨by rw[HE.o],B3.o⟩
   |none=>
    rw[hq] at hl h1;simp only[if_true,Option.map_none,Option.getD_none,Option.isSome_none] at hl;have H2:=q_ (show ky st.scopes name k=M.named st.scopes name by rw[<-HF.o,h1]);clear hq h1 sc XO;go_wp2;go_roundw
    case rel=>exact⟨k,by omega,by go_num,H2.o,XN.o.alloc XN.o.size _⟩
    case measure=>simp[intOf]
end
end Go.Proofs.YtpohlhkgbmdieaaGreatDoor
