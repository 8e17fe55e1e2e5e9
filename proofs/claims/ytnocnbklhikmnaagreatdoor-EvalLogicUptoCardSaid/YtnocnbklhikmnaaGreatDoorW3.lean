/- Part 3 of the proof. -/
import Derived.Test.YtnocnbklhikmnaaGreatDoorW1
import Derived.CallsIn
import Derived.Laws.Rows
import Derived.Laws.Strings
import Derived.Laws.Entries
import Derived.Laws.Cells
import Derived.Laws.StructEq
set_option linter.unusedVariables false
set_option maxRecDepth 1000000
set_option maxHeartbeats 16000000
namespace Go.Proofs.YtnocnbklhikmnaaGreatDoor.Rk
open Go
theorem Tr.get_leaf{α:Type}(k:Nat):(Tr.leaf:Tr α).get k=none:=rfl
theorem Tr.get_node{α:Type}(l r:Tr α)(v:Option α)(k:Nat):(Tr.node l v r).get k=if k=0 then v else if k%2=1 then l.get (k/2) else r.get (k/2-1):=rfl
theorem Tr.get_setF{α:Type}(v:α):∀(f:Nat) (t:Tr α) (k j:Nat),k+1<2^f->(Tr.setF f t k v).get j=if j=k then some v else t.get j
 |0,t,k,j,h=>by simp at h
 |f+1,t,k,j,h=>by
  rw[Nat.pow_succ] at h;have ho:k%2=1->k≠0->k/2+1<2^f:=by omega
  have he:k%2≠1->k≠0->k/2-1+1<2^f:=by omega
  cases t with
  |leaf=>
   unfold Tr.setF;by_cases h0:k=0
   ·subst h0
    simp only[if_true,Tr.get_node,Tr.get_leaf];by_cases hj:j=0
    ·simp[hj]
    ·simp[hj]
   ·by_cases h1:k%2=1
    ·simp only[if_neg h0,if_pos h1,Tr.get_node,Tr.get_leaf]
     rw[Tr.get_setF v f _ _ _ (ho h1 h0)];by_cases hj0:j=0
     ·subst hj0;simp[Ne.symm h0]
     ·by_cases hj1:j%2=1
      ·simp only[if_neg hj0,if_pos hj1,Tr.get_leaf]
       by_cases hjk:j=k
       ·subst hjk;simp
       ·rw[if_neg hjk,if_neg (by omega)]
      ·simp only[if_neg hj0,if_neg hj1]
       rw[if_neg (by intro e;subst e;exact hj1 h1)]
    ·simp only[if_neg h0,if_neg h1,Tr.get_node,Tr.get_leaf]
     rw[Tr.get_setF v f _ _ _ (he h1 h0)];by_cases hj0:j=0
     ·subst hj0;simp[Ne.symm h0]
     ·by_cases hj1:j%2=1
      ·simp only[if_neg hj0,if_pos hj1]
       rw[if_neg (by intro e;subst e;exact h1 hj1)]
      ·simp only[if_neg hj0,if_neg hj1,Tr.get_leaf]
       by_cases hjk:j=k
       ·subst hjk;simp
       ·rw[if_neg hjk,if_neg (by omega)]
  |node l u r=>
   unfold Tr.setF;by_cases h0:k=0
   ·subst h0
    simp only[if_true,Tr.get_node];by_cases hj:j=0
    ·simp[hj]
    ·simp[hj]
   ·by_cases h1:k%2=1
    ·simp only[if_neg h0,if_pos h1,Tr.get_node]
     rw[Tr.get_setF v f _ _ _ (ho h1 h0)];by_cases hj0:j=0
     ·subst hj0;simp[Ne.symm h0]
     ·by_cases hj1:j%2=1
      ·simp only[if_neg hj0,if_pos hj1]
       by_cases hjk:j=k
       ·subst hjk;simp
       ·rw[if_neg hjk,if_neg (by omega)]
      ·simp only[if_neg hj0,if_neg hj1]
       rw[if_neg (by intro e;subst e;exact hj1 h1)]
    ·simp only[if_neg h0,if_neg h1,Tr.get_node]
     rw[Tr.get_setF v f _ _ _ (he h1 h0)];by_cases hj0:j=0
     ·subst hj0;simp[Ne.symm h0]
     ·by_cases hj1:j%2=1
      ·simp only[if_neg hj0,if_pos hj1]
       rw[if_neg (by intro e;subst e;exact h1 hj1)]
      ·simp only[if_neg hj0,if_neg hj1]
       by_cases hjk:j=k
       ·subst hjk;simp
       ·rw[if_neg hjk,if_neg (by omega)]
theorem Tr.get_set{α:Type}(v:α)(t:Tr α)(k j:Nat):(t.set k v).get j=if j=k then some v else t.get j:=by
 refine Tr.get_setF v _ t k j ?_;have h:=Nat.lt_log2_self (n:=k);rw[Nat.pow_succ];omega
structure RB where
 blk:Nat
 base:Nat
 n:Nat
abbrev Env:=Nat->Option RB
def RB.at(r:RB)(off:Nat):Addr:=⟨r.blk,r.base+off,none⟩
mutual
inductive VR(ρ:Env):AV->Value->Prop
 |top (v:Value):VR ρ .top v
 |bool (b:Bool):VR ρ (.bool b) (.bool b)
 |int (k:IntKind) (n:Int):VR ρ (.int k n) (.int k n)
 |str (l:List Nat) (h:∀x∈l,x<256):VR ρ (.str l) (.string ⟨(l.map UInt8.ofNat).toArray⟩)
 |ptr (b off:Nat) (r:RB) (h:ρ b=some r):VR ρ (.ptr b off) (.pointer (some (r.at off)))
 |nilp:VR ρ .nilp (.pointer none)
 |slice (b off len mc es:Nat) (r:RB) (ad:Addr) (cap:Nat) (h:ρ b=some r) (h1:len<=mc) (h2:mc<=cap) (h3:cap=0\/ad=r.at off/\off+cap*es<=r.n):VR ρ (.slice b off len mc es) (.slice (some ad) len cap)
 |nils:VR ρ .nils (.slice none 0 0)
 |map (b:Nat) (r:RB) (h:ρ b=some r):VR ρ (.map b) (.map (some r.blk))
 |nilm:VR ρ .nilm (.map none)
 |func (f:FuncId) (k l:List AV) (k' l':Array Value) (h1:VRL ρ k k'.toList) (h2:VRL ρ l l'.toList):VR ρ (.func f k l) (.func (.func f) k' l')
 |nilf:VR ρ .nilf .nilFunc
 |iface (t:TypeId) (a:AV) (v:Value) (h:VR ρ a v):VR ρ (.iface t a) (.iface t v)
 |nili:VR ρ .nili .nilIface
 |agg (cs:List AV) (cs':Array Value) (h:VRL ρ cs cs'.toList):VR ρ (.agg cs) (.agg cs')
 |tuple (cs:List AV) (cs':Array Value) (h:VRL ρ cs cs'.toList):VR ρ (.tuple cs) (.tuple cs')
 |yield (b:Nat) (r:RB) (h:ρ b=some r):VR ρ (.yield b) (.func (.yield r.blk) #[] #[])
inductive VRL (ρ:Env):List AV->List Value->Prop
 |nil:VRL ρ [] []
 |cons (a:AV) (v:Value) (l:List AV) (vs:List Value) (h:VR ρ a v) (t:VRL ρ l vs):VRL ρ (a::l) (v::vs)
end
def Env.le(ρ ρ':Env):Prop:=∀b r,ρ b=some r->ρ' b=some r
theorem Env.le_refl(ρ:Env):ρ.le ρ:=fun _ _ h=>h
theorem Env.le_trans{ρ ρ' ρ'':Env}(h:ρ.le ρ')(k:ρ'.le ρ''):ρ.le ρ'':=fun b r hb=>k b r (h b r hb)
mutual
theorem VR.mono{ρ ρ':Env}(hr:ρ.le ρ'):∀{a:AV} {v:Value},VR ρ a v->VR ρ' a v
 |_,_,.top v=> .top v
 |_,_,.bool b=> .bool b
 |_,_,.int k n=> .int k n
 |_,_,.str l h=> .str l h
 |_,_,.ptr b off r h=> .ptr b off r (hr b r h)
 |_,_,.nilp=> .nilp
 |_,_,.slice b off len mc es r ad cap h h1 h2 h3=> .slice b off len mc es r ad cap (hr b r h) h1 h2 h3
 |_,_,.nils=> .nils
 |_,_,.map b r h=> .map b r (hr b r h)
 |_,_,.nilm=> .nilm
 |_,_,.func f k l k' l' h1 h2=> .func f k l k' l' (VRL.mono hr h1) (VRL.mono hr h2)
 |_,_,.nilf=> .nilf
 |_,_,.iface t a v h=> .iface t a v (VR.mono hr h)
 |_,_,.nili=> .nili
 |_,_,.agg cs cs' h=> .agg cs cs' (VRL.mono hr h)
 |_,_,.tuple cs cs' h=> .tuple cs cs' (VRL.mono hr h)
 |_,_,.yield b r h=> .yield b r (hr b r h)
theorem VRL.mono {ρ ρ':Env} (hr:ρ.le ρ'):∀{l:List AV} {vs:List Value},VRL ρ l vs->VRL ρ' l vs
 |_,_,.nil=> .nil
 |_,_,.cons a v l vs h t=> .cons a v l vs (VR.mono hr h) (VRL.mono hr t)
end
section
variable {ρ:Env}
theorem VRL.length:∀{l:List AV} {vs:List Value},VRL ρ l vs->vs.length=l.length
 |_,_,.nil=>rfl
 |_,_,.cons a v l vs h t=>by simp[VRL.length t]
theorem VRL.get:∀{l:List AV} {vs:List Value} (i:Nat) {a:AV},VRL ρ l vs->l[i]? =some a->∃v,vs[i]? =some v/\VR ρ a v
 |_,_,i,_,.nil,h=>by simp at h
 |_,_,0,_,.cons a v l vs hv t,h=>by simp at h;subst h;exact⟨v,rfl,hv⟩
 |_,_,i+1,_,.cons a v l vs hv t,h=>by simp at h;simpa using VRL.get i t h
theorem VRL.of_get:∀{l:List AV} {vs:List Value},vs.length=l.length->(∀(i:Nat) (a:AV) (v:Value),l[i]? =some a->vs[i]? =some v->VR ρ a v)->VRL ρ l vs
 |[],[],_,_=> .nil
 |a::l,v::vs,hl,h=> .cons a v l vs (h 0 a v rfl rfl) (VRL.of_get (by simpa using hl) (fun i a v h1 h2=>h (i+1) a v (by simpa using h1) (by simpa using h2)))
 |[],_::_,hl,_=>by simp at hl
 |_::_,[],hl,_=>by simp at hl
theorem VRL.append:∀{l k:List AV} {vs us:List Value},VRL ρ l vs->VRL ρ k us->VRL ρ (l++k) (vs++us)
 |_,_,_,_,.nil,h=>h
 |_,_,_,_,.cons a v l vs hv t,h=> .cons a v _ _ hv (VRL.append t h)
theorem VRL.drop:∀(n:Nat) {l:List AV} {vs:List Value},VRL ρ l vs->VRL ρ (l.drop n) (vs.drop n)
 |0,_,_,h=>h
 |n+1,_,_,.nil=> .nil
 |n+1,_,_,.cons a v l vs hv t=>by simpa using VRL.drop n t
theorem VRL.take:∀(n:Nat) {l:List AV} {vs:List Value},VRL ρ l vs->VRL ρ (l.take n) (vs.take n)
 |0,_,_,h=> .nil
 |n+1,_,_,.nil=> .nil
 |n+1,_,_,.cons a v l vs hv t=>by simpa using VRL.cons a v _ _ hv (VRL.take n t)
theorem VRL.map{α:Type}(f:α->AV)(g:α->Value):∀(l:List α),(∀x∈l,VR ρ (f x) (g x))->VRL ρ (l.map f) (l.map g)
 |[],_=> .nil
 |x::l,h=> .cons _ _ _ _ (h x (by simp)) (VRL.map f g l (fun y hy=>h y (by simp[hy])))
theorem VRL.one{a:AV}{v:Value}(h:VR ρ a v):VRL ρ [a] [v]:= .cons _ _ _ _ h .nil
theorem mem_lt(s:ByteArray):∀x∈bytesOf s,x<256:=by
 intro x hx;simp only[bytesOf,List.mem_map] at hx;obtain⟨u,_,rfl⟩:=hx;exact u.toNat_lt
theorem bytes_back(s:ByteArray):(⟨((bytesOf s).map UInt8.ofNat).toArray⟩:ByteArray)=s:=by
 have:(bytesOf s).map UInt8.ofNat=s.data.toList:=by
  unfold bytesOf;rw[List.map_map];have:UInt8.ofNat∘UInt8.toNat=id:=by funext b;simp
  rw[this,List.map_id]
 rw[this]
theorem VR.string(s:ByteArray):VR ρ (.str (bytesOf s)) (.string s):=by
 have h:=VR.str (ρ:=ρ) (bytesOf s) (mem_lt s)
 rwa [bytes_back] at h
theorem ofV_ok:∀(n:Nat) (v:Value),VR ρ (ofV n v) v:=by
 intro n
 induction n with
 |zero=>
  intro v;cases v with
  |bool b=>exact .bool b
  |int k m=>exact .int k m
  |string s=>exact VR.string s
  |pointer a=>cases a with
   |none=>exact .nilp
   |some a=>exact .top _
  |slice a l c=>unfold ofV;split<;>simp_all<;>first|exact .nils|exact .top _
  |map r=>cases r with
   |none=>exact .nilm
   |some a=>exact .top _
  |nilFunc=>exact .nilf
  |nilIface=>exact .nili
  |_=>exact .top _
 |succ n ih=>
  intro v;cases v with
  |bool b=>exact .bool b
  |int k m=>exact .int k m
  |string s=>exact VR.string s
  |pointer a=>cases a with
   |none=>exact .nilp
   |some a=>exact .top _
  |slice a l c=>unfold ofV;split<;>simp_all<;>first|exact .nils|exact .top _
  |map r=>cases r with
   |none=>exact .nilm
   |some a=>exact .top _
  |nilFunc=>exact .nilf
  |nilIface=>exact .nili
  |agg cs=>
   refine .agg _ _ ?_;have h:=VRL.map (ρ:=ρ) (ofV n) id cs.toList (fun x _=>ih x);simpa using h
  |tuple cs=>
   refine .tuple _ _ ?_;have h:=VRL.map (ρ:=ρ) (ofV n) id cs.toList (fun x _=>ih x);simpa using h
  |_=>exact .top _
theorem cells_ok{a:AV}{v:Value}{cs:List AV}(h:VR ρ a v)(hc:cellsA a=some cs):VRL ρ cs v.cells.toList:=by
 cases h<;>simp[cellsA] at hc<;>subst hc<;>first|assumption|(refine VRL.one ?_;constructor<;>assumption)|(exact VRL.one (by assumption))
theorem one_ok{a:AV}{v:Value}(h:VR ρ a v)(ho:one a=true):v.oneCell'=true:=by
 cases h<;>simp[one] at ho<;>rfl
end
def LE.at(e:LE)(b i:Nat):Prop:=match e with
 | .rd c j n| .wr c j n=>c=b/\j<=i/\i<j+n
 | .all c=>c=b
def Cov(T:Nat->Nat->Prop)(e:LE):Prop:=∀b i,e.at b i->T b i
def Fits(t:Nat)(r:RB)(n:Nat):Prop:=n<=r.n/\(t%2=1->r.base=0/\r.n=n)
theorem Fits.even(t:Nat){r:RB}{n:Nat}(h:n<=r.n):Fits (2*t) r n:=⟨h,fun h=>by omega⟩
theorem two_half(t:Nat):2*t/2=t:=by omega
theorem two_half1(t:Nat):(2*t+1)/2=t:=by omega
def live:ABlk->Prop
 | .dead=>False
 |_=>True
def loopState(ready:Bool)(p:Option Code):LoopState:=if ready then .ready else if p.isNone then .busy else .done
def BR(ρ:Env)(T:Nat->Prop)(b:Nat)(w:World):ABlk->Prop
 | .cells t cs=>∃r c fr,ρ b=some r/\w.heap[r.blk]? =some (.cells c (t/2) fr)/\c.size=r.base+r.n/\Fits t r cs.length/\(∀o,r.base<=o->o<c.size->(decide (fr.1<=o)&&decide (o<fr.2))=false)/\∀i a,cs[i]? =some a->T i->∃v,c[r.base+i]? =some v/\VR ρ a v
 | .map es clock=>∃r es',ρ b=some r/\w.heap[r.blk]? =some (.map es' clock)/\(VRL ρ (es.map (·.k)) (es'.toList.map (·.key))/\VRL ρ (es.map (·.v)) (es'.toList.map (·.val))/\es.map (·.born)=es'.toList.map (·.born))
 | .miter m since seen last=>∃r m',ρ b=some r/\r.base=0/\w.heap[r.blk]? =some (.mapIter m' since seen.toArray last)/\(match m with|none=>m'=none|some m=>∃q,ρ m=some q/\m'=some q.blk)
 | .siter l pos=>∃r,ρ b=some r/\r.base=0/\w.heap[r.blk]? =some (.stringIter ⟨(l.map UInt8.ofNat).toArray⟩ pos)/\∀x∈l,x<256
 | .pmap es=>∃r es' el clock,ρ b=some r/\w.heap[r.blk]? =some (.map es' clock)/\List.Perm el es/\(VRL ρ (el.map (·.k)) (es'.toList.map (·.key))/\VRL ρ (el.map (·.v)) (es'.toList.map (·.val)))
 | .defd=>∃r,ρ b=some r/\w.heap[r.blk]? =some (.deferred (some []))
 | .loop ready p sz tmps ps assign body d=>∃r fn tmps' q,ρ b=some r/\ρ d=some q/\w.heap[r.blk]? =some (.loop {state:=loopState ready p,pending:=p,fn:=fn,tmps:=tmps',params:=ps.toArray,assign:=assign,body:=body,defers:=q.blk})/\tmps'.size=sz/\∀t,VR ρ ((tmps.get t).getD (.tuple [])) (tmps'.getD t undef)
 | .dead=>True
def Wrt(ρ:Env)(log:List LE)(B o:Nat):Prop:=∃e∈log,∃r,ρ e.blk=some r/\r.blk=B/\(match e with| .rd _ _ _=>False| .wr _ i n=>r.base+i<=o/\o<r.base+i+n| .all _=>True)
def All(ρ:Env)(log:List LE)(B:Nat):Prop:=∃b r,LE.all b∈log/\ρ b=some r/\r.blk=B
structure Unch(ρ:Env)(log:List LE)(w w':World):Prop where
 os:w'.os=w.os
 tape:w'.tape=w.tape
 output:w'.output=w.output
 size:w.heap.size<=w'.heap.size
 block:∀B,B<w.heap.size->(∀o,¬Wrt ρ log B o)->w'.heap[B]? =w.heap[B]?
 cells:∀B c t fr,w.heap[B]? =some (.cells c t fr)->¬All ρ log B->∃c',w'.heap[B]? =some (.cells c' t fr)/\c'.size=c.size/\∀o,¬Wrt ρ log B o->c'[o]? =c[o]?
structure Good(ρ:Env)(T:Nat->Nat->Prop)(h:Nat->Option ABlk)(w:World):Prop where
 sat:∀b x,h b=some x->(∃i,T b i)->BR ρ (T b) b w x
 inj:∀b b' r r' x x',h b=some x->h b'=some x'->live x->live x'->(∃i,T b i)->(∃i,T b' i)->ρ b=some r->ρ b'=some r'->r.blk=r'.blk->b=b'
 old:∀b r,ρ b=some r->r.blk<w.heap.size
def WfS(s:St):Prop:=∀b,s.n<=b->s.heap.get b=none
def LE.wrote(e:LE)(b i:Nat):Prop:=match e with
 | .wr c j n=>c=b/\j<=i/\i<j+n
 |_=>False
def Keep(log:List LE)(b:Nat):ABlk->Option ABlk->Prop
 | .cells t cs,y=>∃cs',y=some (.cells t cs')/\cs'.length=cs.length/\∀i,(∀e∈log,¬e.wrote b i)->cs'[i]? =cs[i]?
 |x,y=>y=some x
theorem Keep.refl(log:List LE)(b:Nat)(x:ABlk):Keep log b x (some x):=by
 cases x<;>first|rfl|exact⟨_,rfl,rfl,fun _ _=>rfl⟩
theorem Keep.mono{l l':List LE}(hl:∀e∈l,e∈l'){b:Nat}{x:ABlk}{y:Option ABlk}(h:Keep l b x y):Keep l' b x y:=by
 cases x with
 |cells t cs=>obtain⟨cs',h1,h2,h3⟩:=h;exact⟨cs',h1,h2,fun i hi=>h3 i (fun e he=>hi e (hl e he))⟩
 |_=>exact h
theorem Keep.trans{l l':List LE}(hl:∀e∈l,e∈l'){b:Nat}{x y:ABlk}{z:Option ABlk}(h:Keep l b x (some y))(k:Keep l' b y z):Keep l' b x z:=by
 cases x with
 |cells t cs=>
  obtain⟨cs',h1,h2,h3⟩:=h;cases h1;obtain⟨cs2,k1,k2,k3⟩:=k;exact⟨cs2,k1,k2.trans h2,fun i hi=>(k3 i hi).trans (h3 i (fun e he=>hi e (hl e he)))⟩
 |_=>cases h;exact k
theorem Keep.some{l:List LE}{b:Nat}{x:ABlk}{y:Option ABlk}(h:Keep l b x y):∃z,y=some z:=by
 cases x with
 |cells t cs=>obtain⟨cs',h1,_⟩:=h;exact⟨_,h1⟩
 |_=>exact⟨_,h⟩
structure Mono(s s':St):Prop where
 n:s.n<=s'.n
 log:∀e∈s.log,e∈s'.log
 wf:WfS s->WfS s'
 keep:WfS s->∀b x,s.heap.get b=some x->LE.all b∉s'.log->Keep s'.log b x (s'.heap.get b)
 lv:WfS s->∀b x',b<s.n->s'.heap.get b=some x'->live x'->∃x,s.heap.get b=some x/\live x
 lw:WfS s->∀e∈s'.log,e∈s.log\/s.n<=e.blk\/∃x,s.heap.get e.blk=some x/\live x
 lb:WfS s->(∀e∈s.log,e.blk<s.n)->∀e∈s'.log,e.blk<s'.n
theorem Mono.refl(s:St):Mono s s:=⟨n_,fun _ h=>h,fun h=>h,fun _ b x h _=>by rw[h];exact Keep.refl _ _ _,fun _ _ x' _ h hl=>⟨x',h,hl⟩,fun _ _ h=> .inl h,fun _ h=>h⟩
theorem Mono.trans{a b c:St}(h:Mono a b)(k:Mono b c):Mono a c:=⟨Nat.le_trans h.n k.n,fun e he=>k.log e (h.log e he),fun hw=>k.wf (h.wf hw),fun hw i x hx hn=>by
 have h1:=h.keep hw i x hx (fun hm=>hn (k.log _ hm));obtain⟨z,hz⟩:=h1.some;rw[hz] at h1;exact h1.trans k.log (k.keep (h.wf hw) i z hz hn),fun hw i x' hi hx hl=>by
 obtain⟨y,hy,hyl⟩:=k.lv (h.wf hw) i x' (Nat.lt_of_lt_of_le hi h.n) hx hl;exact h.lv hw i y hi hy hyl,fun hw e he=>by
 rcases k.lw (h.wf hw) e he with h1|h1|⟨x,h1,h2⟩
 ·exact h.lw hw e h1
 ·exact .inr (.inl (Nat.le_trans h.n h1))
 ·by_cases hb:e.blk<a.n
  ·exact .inr (.inr (h.lv hw _ x hb h1 h2))
  ·exact .inr (.inl (Nat.not_lt.1 hb)),fun hw hl=>k.lb (h.wf hw) (h.lb hw hl)⟩
def Tn(T:Nat->Nat->Prop)(n n':Nat):Nat->Nat->Prop:=fun b i=>T b i\/n<=b/\b<n'
structure Pre(ρ:Env)(T:Nat->Nat->Prop)(s s':St)(w:World):Prop where
 good:Good ρ T s.heap.get w
 cov:∀e∈s'.log,e.blk<s.n->Cov T e
 fresh:∀b,s.n<=b->b<s'.n->ρ b=none
 wf:WfS s
 tn:∀b i,T b i->b<s.n
structure Post(ρ:Env)(T:Nat->Nat->Prop)(s:St)(w:World)(ρ':Env)(s':St)(w':World):Prop where
 ext:ρ.le ρ'
 new:∀b r,ρ' b=some r->ρ b=some r\/s.n<=b/\b<s'.n
 fr:∀b r,ρ b=none->ρ' b=some r->r.blk<w.heap.size->All ρ s'.log r.blk
 good:Good ρ' (Tn T s.n s'.n) s'.heap.get w'
 unch:Unch ρ s'.log w w'
theorem Unch.refl(ρ:Env)(log:List LE)(w w':World)(ho:w'.os=w.os)(ht:w'.tape=w.tape)(hp:w'.output=w.output)(hh:w'.heap=w.heap):Unch ρ log w w':=
 ⟨ho,ht,hp,by rw[hh];exact n_,fun _ _ _=>by rw[hh],fun B c t fr h _=>⟨c,by rw[hh];exact h,rfl,fun _ _=>rfl⟩⟩
theorem Wrt.mono{ρ ρ':Env}{l l':List LE}{B o:Nat}(h:Wrt ρ l B o)(hr:ρ.le ρ')(hl:∀e∈l,e∈l'):Wrt ρ' l' B o:=by
 obtain⟨e,he,r,h1,h2,h3⟩:=h;exact⟨e,hl e he,r,hr _ _ h1,h2,h3⟩
theorem All.mono{ρ ρ':Env}{l l':List LE}{B:Nat}(h:All ρ l B)(hr:ρ.le ρ')(hl:∀e∈l,e∈l'):All ρ' l' B:=by
 obtain⟨b,r,h1,h2,h3⟩:=h;exact⟨b,r,hl _ h1,hr _ _ h2,h3⟩
theorem All.wrt{ρ:Env}{l:List LE}{B:Nat}(h:All ρ l B)(o:Nat):Wrt ρ l B o:=by
 obtain⟨b,r,h1,h2,h3⟩:=h;exact⟨.all b,h1,r,h2,h3,trivial⟩
theorem Wrt.back{ρ ρ1:Env}{l l1:List LE}{w:World}{B o:Nat}(hB:B<w.heap.size)(hl:∀e∈l,e∈l1)(hext:ρ.le ρ1)(hfr:∀b r,ρ b=none->ρ1 b=some r->r.blk<w.heap.size->All ρ l r.blk)(h:Wrt ρ1 l1 B o):Wrt ρ l1 B o:=by
 obtain⟨e,he,r,h1,h2,h3⟩:=h;cases hb:ρ e.blk with
 |none=>
  have:=hfr _ r hb h1 (by omega);rw[h2] at this;exact(this.mono (Env.le_refl ρ) hl).wrt o
 |some r0=>
  have:r0=r:=Option.some.inj ((hext _ _ hb).symm.trans h1);subst this;exact⟨e,he,r0,hb,h2,h3⟩
theorem All.back{ρ ρ1:Env}{l l1:List LE}{w:World}{B:Nat}(hB:B<w.heap.size)(hl:∀e∈l,e∈l1)(hext:ρ.le ρ1)(hfr:∀b r,ρ b=none->ρ1 b=some r->r.blk<w.heap.size->All ρ l r.blk)(h:All ρ1 l1 B):All ρ l1 B:=by
 obtain⟨b,r,h1,h2,h3⟩:=h;cases hb:ρ b with
 |none=>
  have:=hfr _ r hb h2 (by omega);rw[h3] at this;exact this.mono (Env.le_refl ρ) hl
 |some r0=>
  have:r0=r:=Option.some.inj ((hext _ _ hb).symm.trans h2);subst this;exact⟨b,r0,h1,hb,h3⟩
theorem lt_of_some{w:World}{B:Nat}{o:Obj}(h:w.heap[B]? =some o):B<w.heap.size:=(Array.getElem?_eq_some_iff.1 h).1
theorem Unch.trans{ρ ρ1:Env}{l l1:List LE}{w w1 w2:World}(h:Unch ρ l w w1)(k:Unch ρ1 l1 w1 w2)(hl:∀e∈l,e∈l1)(hext:ρ.le ρ1)(hfr:∀b r,ρ b=none->ρ1 b=some r->r.blk<w.heap.size->All ρ l r.blk):Unch ρ l1 w w2:=by
 refine⟨k.os.trans h.os,k.tape.trans h.tape,k.output.trans h.output,Nat.le_trans h.size k.size,fun B hB hn=> ?_,fun B c t fr hc hna=> ?_⟩
 ·rw[k.block B (Nat.lt_of_lt_of_le hB h.size) (fun o hw=>hn o (hw.back hB hl hext hfr)),h.block B hB (fun o hw=>hn o (hw.mono (Env.le_refl ρ) hl))]
 ·have hB:=lt_of_some hc
  obtain⟨c1,h1,hs1,he1⟩:=h.cells B c t fr hc (fun ha=>hna (ha.mono (Env.le_refl ρ) hl));obtain⟨c2,h2,hs2,he2⟩:=k.cells B c1 t fr h1 (fun ha=>hna (ha.back hB hl hext hfr));exact⟨c2,h2,hs2.trans hs1,fun o ho=>(he2 o (fun hw=>ho (hw.back hB hl hext hfr))).trans (he1 o (fun hw=>ho (hw.mono (Env.le_refl ρ) hl)))⟩
theorem Tn_trans{T:Nat->Nat->Prop}{a b c:Nat}(h1:a<=b)(h2:b<=c):Tn (Tn T a b) b c=Tn T a c:=by
 funext x i;unfold Tn;apply propext;constructor
 ·rintro((h|h)|h)
  ·exact .inl h
  ·exact .inr ⟨h.1,by omega⟩
  ·exact .inr ⟨by omega,h.2⟩
 ·rintro(h|h)
  ·exact .inl (.inl h)
  ·by_cases hb:x<b
   ·exact .inl (.inr ⟨h.1,hb⟩)
   ·exact .inr ⟨by omega,h.2⟩
theorem Pre.first{ρ:Env}{T:Nat->Nat->Prop}{s s1 s2:St}{w:World}(h:Pre ρ T s s2 w)(m2:Mono s1 s2):Pre ρ T s s1 w:=
 ⟨h.good,fun e he hb=>h.cov e (m2.log e he) hb,fun b h1 h2=>h.fresh b h1 (Nat.lt_of_lt_of_le h2 m2.n),h.wf,h.tn⟩
theorem Pre.next{ρ ρ1:Env}{T:Nat->Nat->Prop}{s s1 s2:St}{w w1:World}(h:Pre ρ T s s2 w)(m1:Mono s s1)(m2:Mono s1 s2)(k:Post ρ T s w ρ1 s1 w1):Pre ρ1 (Tn T s.n s1.n) s1 s2 w1:=
 ⟨k.good,fun e he hb=>by
  intro b i hbi;have hbb:e.blk=b:=by cases e<;>first|exact hbi.1|exact hbi
  by_cases hs:e.blk<s.n
  ·exact .inl (h.cov e he hs b i hbi)
  ·exact .inr ⟨by omega,by omega⟩,fun b h1 h2=>by
  cases hb:ρ1 b with
  |none=>rfl
  |some r=>
   rcases k.new b r hb with h3|h3
   ·rw[h.fresh b (Nat.le_trans m1.n h1) h2] at h3;cases h3
   ·omega,m1.wf h.wf,fun b i hb=>by
  rcases hb with hb|hb
  ·exact Nat.lt_of_lt_of_le (h.tn b i hb) m1.n
  ·exact hb.2⟩
theorem Post.trans{ρ ρ1 ρ2:Env}{T:Nat->Nat->Prop}{s s1 s2:St}{w w1 w2:World}(m1:Mono s s1)(m2:Mono s1 s2)(h:Post ρ T s w ρ1 s1 w1)(k:Post ρ1 (Tn T s.n s1.n) s1 w1 ρ2 s2 w2):Post ρ T s w ρ2 s2 w2:=
 ⟨Env.le_trans h.ext k.ext,fun b r hb=>by
  rcases k.new b r hb with h3|h3
  ·rcases h.new b r h3 with h4|h4
   ·exact .inl h4
   ·have:=m2.n;exact .inr ⟨h4.1,by omega⟩
  ·have:=m1.n;exact .inr ⟨by omega,h3.2⟩,fun b r hb hr hlt=>by
  cases h1:ρ1 b with
  |some r1=>
   have:r1=r:=Option.some.inj ((k.ext _ _ h1).symm.trans hr);subst this;exact(h.fr b r1 hb h1 hlt).mono (Env.le_refl ρ) m2.log
  |none=>exact(k.fr b r h1 hr (Nat.lt_of_lt_of_le hlt h.unch.size)).back hlt m2.log h.ext (fun b r h1 h2 h3=>h.fr b r h1 h2 h3),by
  have:=k.good
  rwa [Tn_trans m1.n m2.n] at this,h.unch.trans k.unch m2.log h.ext (fun b r h1 h2 h3=>h.fr b r h1 h2 h3)⟩
section
variable {P:Program} {ρ:Env} {w:World}
theorem run_info{t:TypeId}{i:TypeInfo}(h:P.info? t=some i)(w:World):(typeInfo t).run P w= .ok i w:=by
 simp[typeInfo,h]
theorem run_szOf{t:TypeId}{n:Nat}(h:szOf P t=some n)(w:World):(sizeOf t).run P w= .ok n w:=by
 unfold szOf at h;cases hi:P.info? t with
 |none=>rw[hi] at h;simp at h
 |some i=>rw[hi] at h;simp at h;subst h;simp[sizeOf,run_info hi]
theorem run_agg{t:TypeId}{g:Bool}(h:aggT P t=some g)(w:World):(isAgg t).run P w= .ok g w:=by
 unfold aggT at h;cases hd:P.underlying t with
 |none=>rw[hd] at h;simp at h
 |some d=>
  rw[hd] at h;simp only[Option.map_some,Option.some.injEq] at h;subst h;cases d<;>simp[isAgg,run_underlying hd,aggD]
theorem run_zero{t:TypeId}{z:AV}(h:zeroA P t=some z)(w:World):∃v,(zeroValue t).run P w= .ok v w/\z=ofV 3 v/\VR ρ z v:=by
 unfold zeroA at h;cases hi:P.info? t with
 |none=>rw[hi] at h;simp at h
 |some i=>
  rw[hi] at h;cases hz:i.zero with
  |none=>simp[hz] at h
  |some v=>
   simp[hz] at h;exact⟨v,by simp[zeroValue,run_info hi,hz],h.symm,h▸ofV_ok 3 v⟩
theorem map_ofNat_inj{l k:List Nat}(hl:∀x∈l,x<256)(hk:∀x∈k,x<256):(l.map UInt8.ofNat=k.map UInt8.ofNat)<->l=k:=by
 constructor
 ·intro h
  have:=congrArg (List.map UInt8.toNat) h;rw[List.map_map,List.map_map] at this
  have e:∀m:List Nat,(∀x∈m,x<256)->m.map (UInt8.toNat∘UInt8.ofNat)=m:=fun m hm=>by
   conv=>rhs;rw[<-List.map_id m]
   refine List.map_congr_left fun x hx=> ?_;have:=hm x hx;simp;omega
  rwa [e l hl,e k hk] at this
 ·rintro rfl;rfl
theorem u8_lt{a b:Nat}(ha:a<256)(hb:b<256):(UInt8.ofNat a<UInt8.ofNat b)<->a<b:=by
 rw[UInt8.lt_iff_toNat_lt];simp;omega
theorem u8_eq{a b:Nat}(ha:a<256)(hb:b<256):(UInt8.ofNat a=UInt8.ofNat b)<->a=b:=by
 rw[<-UInt8.toNat_inj];simp;omega
theorem strLt_ok:∀(l k:List Nat),(∀x∈l,x<256)->(∀x∈k,x<256)->Op.bytesLess (l.map UInt8.ofNat) (k.map UInt8.ofNat)=strLt l k
 |l,[],_,_=>by cases l<;>simp[Op.bytesLess,strLt]
 |[],y::k,_,_=>by simp[Op.bytesLess,strLt]
 |x::l,y::k,hl,hk=>by
  have hx:=hl x (by simp);have hy:=hk y (by simp);have ih:=strLt_ok l k (fun z hz=>hl z (by simp[hz])) (fun z hz=>hk z (by simp[hz]));simp only[List.map_cons,Op.bytesLess,strLt,ih];congr 1
  ·exact decide_eq_decide.2 (u8_lt hx hy)
  ·congr 1
   rw[Bool.eq_iff_iff];simp[u8_eq hx hy]
theorem str_eq(l k:List Nat)(hl:∀x∈l,x<256)(hk:∀x∈k,x<256):((⟨(l.map UInt8.ofNat).toArray⟩:ByteArray).toList==(⟨(k.map UInt8.ofNat).toArray⟩:ByteArray).toList)=decide (l=k):=by
 rw[ByteArray.toList_eq,ByteArray.toList_eq,Bool.eq_iff_iff];simp[map_ofNat_inj hl hk]
theorem iop_ok{op:BinOp}{k j:IntKind}{x y:Int}{t:TypeId}{v:AV}(h:iop op k x y=some v)(hk:(decide (k=j)||isShift op)=true):∃v',(binOp op t (.int k x) (.int j y)).run P w= .ok v' w/\VR ρ v v':=by
 have hk2:isShift op=false->k=j:=fun h=>by rw[h] at hk;simpa using hk
 cases op<;>simp only[iop,Option.some.injEq] at h
 case shl=>
  split at h
  ·cases h
  ·rename_i hy
   cases h;exact⟨_,by simp[binOp,Op.shift,hy],.int _ _⟩
 case shr=>
  split at h
  ·cases h
  ·rename_i hy
   cases h;exact⟨_,by simp[binOp,Op.shift,hy],.int _ _⟩
 case quo=>
  split at h
  ·cases h
  ·rename_i hy
   cases h;have:=hk2 rfl;subst this;exact⟨_,by simp[binOp,Op.intDiv,hy],.int _ _⟩
 case rem=>
  split at h
  ·cases h
  ·rename_i hy
   cases h;have:=hk2 rfl;subst this;exact⟨_,by simp[binOp,Op.intDiv,hy],.int _ _⟩
 all_goals
  have:=hk2 rfl;subst this;subst h
  first
  |exact⟨_,rfl,.int _ _⟩
  |exact⟨_,rfl,.bool _⟩
  |(refine⟨_,?_,.int _ _⟩;simp only[binOp,ne_eq,not_true_eq_false,if_false];rfl)
  |(refine⟨_,?_,.bool _⟩;simp only[binOp,ne_eq,not_true_eq_false,if_false];rfl)
theorem sop_ok{op:BinOp}{x y:List Nat}{t:TypeId}{v:AV}(h:sop op x y=some v)(hx:∀z∈x,z<256)(hy:∀z∈y,z<256):
 ∃v',(binOp op t (.string ⟨(x.map UInt8.ofNat).toArray⟩) (.string ⟨(y.map UInt8.ofNat).toArray⟩)).run P w= .ok v' w/\VR ρ v v':=by
 have he:=str_eq x y hx hy
 have hl:Op.bytesLess (⟨(x.map UInt8.ofNat).toArray⟩:ByteArray).toList (⟨(y.map UInt8.ofNat).toArray⟩:ByteArray).toList=strLt x y:=by
  rw[ByteArray.toList_eq,ByteArray.toList_eq];exact strLt_ok x y hx hy
 cases op<;>simp only[sop,Option.some.injEq,reduceCtorEq] at h
 case add=>
  split at h
  ·rename_i hlen
   cases h;refine⟨.string (⟨(x.map UInt8.ofNat).toArray⟩++⟨(y.map UInt8.ofNat).toArray⟩),?_,?_⟩
   ·have:¬(((⟨(x.map UInt8.ofNat).toArray⟩:ByteArray).size+(⟨(y.map UInt8.ofNat).toArray⟩:ByteArray).size:Nat):Int)>IntKind.i64.max:=by
     have h1:(⟨(x.map UInt8.ofNat).toArray⟩:ByteArray).size=x.length:=by simp[ByteArray.size]
     have h2:(⟨(y.map UInt8.ofNat).toArray⟩:ByteArray).size=y.length:=by simp[ByteArray.size]
     rw[h1,h2];have:IntKind.i64.max=9223372036854775807:=by decide
     rw[this];omega
    simp only[binOp,Op.stringOp,if_neg this];rfl
   ·have e:(⟨(x.map UInt8.ofNat).toArray⟩:ByteArray)++⟨(y.map UInt8.ofNat).toArray⟩=⟨((x++y).map UInt8.ofNat).toArray⟩:=by
     apply ByteArray.ext;rw[ByteArray.data_append];simp
    rw[e]
    exact .str _ (fun z hz=>by
     rcases List.mem_append.1 hz with h|h
     ·exact hx z h
     ·exact hy z h)
  ·cases h
 all_goals
  subst h;exact⟨_,by simp only[binOp,Op.stringOp,he,hl,Sem.run_pure],.bool _⟩
theorem equal_run{t:TypeId}{d:TypeDesc}(hd:P.underlying t=some d)(x y:Value):(Op.equal t x y).run P w=((match d,x,y with
  | .bool,.bool a,.bool b=> .ok (a==b) w
  | .pointer _,.pointer none,.pointer b=> .ok b.isNone w
  | .pointer _,.pointer _,.pointer none=> .ok false w
  | .interface _,.nilIface,.nilIface=> .ok true w
  | .interface _,.nilIface,.iface _ _=> .ok false w
  | .interface _,.iface _ _,.nilIface=> .ok false w
  | .slice _,.slice none _ _,.slice b _ _=> .ok b.isNone w
  | .slice _,.slice _ _ _,.slice none _ _=> .ok false w
  | .map _ _,.map none,.map b=> .ok b.isNone w
  | .map _ _,.map _,.map none=> .ok false w
  | .func _ _ _,.nilFunc,.nilFunc=> .ok true w
  | .func _ _ _,.nilFunc,.func _ _ _=> .ok false w
  | .func _ _ _,.func _ _ _,.nilFunc=> .ok false w
  |_,_,_=>(Op.equal t x y).run P w):Result Bool):=by
 split<;>first|rfl|skip
 all_goals
  show(Op.equalIn (9999+1) t _ _).run P w=_
  unfold Op.equalIn;rw[Sem.run_bind,run_underlying (by assumption)]
  try rfl
 all_goals
  first
  |(cases‹Option Addr›<;>first|rfl|(exfalso;simp_all;done))
  |(cases‹Option Nat›<;>first|rfl|(exfalso;simp_all;done))
theorem eqT_ok{d:TypeDesc}{known:Bool}{t:TypeId}{x y:AV}{x' y':Value}{b:Bool}(h:eqT d known x y=some b)(hd:P.underlying t=some d)(hx:VR ρ x x')(hy:VR ρ y y'):(Op.equal t x' y').run P w= .ok b w:=by
 rw[equal_run hd];unfold eqT at h;split at h
 case h_4=>
  split at h
  ·cases hx;cases hy;cases h;rfl
  ·cases h
 all_goals first|(cases h;done)|skip
 all_goals
  cases hx;cases hy;cases h;rfl
theorem ite_both{α:Type}{c:Prop}[Decidable c]{x y r:α}(h1:c->x=r)(h2:¬c->y=r):(if c then x else y)=r:=by
 by_cases h:c
 ·rw[if_pos h];exact h1 h
 ·rw[if_neg h];exact h2 h
theorem guard_plain{op:BinOp}{t:TypeId}{X Y:Operand}{x' y':Value}(ha:∀a b,¬(x'= .agg a/\y'= .agg b))(hn:¬(x'= .nilIface/\y'= .nilIface)):(eqGuard op t X Y x' y').run P w= .ok () w:=by
 unfold eqGuard;simp only[Sem.run_ite,Sem.run_pure];refine ite_both (fun _=>rfl) (fun _=> ?_);split
 ·exact absurd ⟨rfl,rfl⟩ hn
 ·exact absurd ⟨rfl,rfl⟩ (ha _ _)
 ·rfl
theorem guard_known{op:BinOp}{t:TypeId}{X Y:Operand}(h:(isConst X||isConst Y)=true):(eqGuard op t X Y .nilIface .nilIface).run P w= .ok () w:=by
 unfold eqGuard;simp only[Sem.run_bind,Sem.run_ite,Sem.run_pure];refine ite_both (fun _=>rfl) (fun _=> ?_);cases X<;>cases Y<;>first|(simp[isConst] at h;done)|rfl|(simp;done)
theorem eqT_guard{d:TypeDesc}{op:BinOp}{t:TypeId}{X Y:Operand}{x y:AV}{x' y':Value}{b:Bool}(h:eqT d (isConst X||isConst Y) x y=some b)(hx:VR ρ x x')(hy:VR ρ y y'):(eqGuard op t X Y x' y').run P w= .ok () w:=by
 unfold eqT at h;split at h
 case h_4=>
  split at h
  ·rename_i hk
   cases hx;cases hy;exact guard_known hk
  ·cases h
 all_goals first|(cases h;done)|skip
 all_goals
  cases hx;cases hy;exact guard_plain (fun a b h=>by cases h.1) (fun h=>by first|(cases h.1;done)|(cases h.2;done))
theorem part_cell{t:TypeId}{d:TypeDesc}{xs:Array Value}{i:Nat}{v:Value}(hd:P.underlying t=some d)(ha:aggD d=false)(hv:xs[i]? =some v)(w:World):(part t xs i).run P w= .ok v w:=by
 have h1:(isAgg t).run P w= .ok false w:=by
  unfold isAgg;rw[Sem.run_bind,run_underlying hd];cases d<;>first|rfl|cases ha
 simp[part,h1,hv]
theorem cellOk_agg{d:TypeDesc}{x:AV}(h:cellOk d x=true):aggD d=false:=by
 cases d<;>first|rfl|(cases x<;>cases h)
theorem cellEq_ok{d:TypeDesc}{t:TypeId}{n:Nat}{x y:AV}{x' y':Value}{b:Bool}(hd:P.underlying t=some d)(hk:cellOk d x=true)(h:cellEq x y=some b)(hx:VR ρ x x')(hy:VR ρ y y')(w:World):
 (Op.equalIn (n+1) t x' y').run P w= .ok b w/\Instr.sameNow d x' y'=some b/\(b=true->y'=x'):=by
 unfold cellEq at h;split at h
 ·rename_i l m
  cases h;cases hx with
  |str _ hl=>cases hy with
   |str _ hm=>
    have hs:d= .string:=by cases d<;>first|rfl|cases hk
    subst hs;refine⟨by rw[run_equalIn_string _ _ _ _ _ hd,str_eq _ _ hl hm],?_,fun h=>by rw[of_decide_eq_true h]⟩;show some _=some _;rw[beq_toListBytes,str_eq _ _ hl hm]
 ·rename_i k a j c
  cases hx;cases hy;split at h
  ·rename_i hkj
   subst hkj;cases h;have hs:∃q,d= .int q:=by cases d<;>first|exact⟨_,rfl⟩|cases hk
   obtain⟨q,rfl⟩:=hs;exact⟨run_equalIn_int _ _ _ _ _ _ _ hd,by simp[Instr.sameNow],fun h=>by rw[eq_of_beq h]⟩
  ·cases h
 ·rename_i a c
  cases hx;cases hy;cases h;have hs:d= .bool:=by cases d<;>first|rfl|cases hk
  subst hs;exact⟨run_equalIn_bool' _ _ _ _ _ hd,by simp[Instr.sameNow],fun h=>by rw[eq_of_beq h]⟩
 ·cases h
theorem cellsEq_ok{n:Nat}{xs ys:Array Value}(w:World):∀{fs:List Field} {cs ds:List AV} {i:Nat} {b:Bool} {cs' ds':List Value},cellsOk P fs cs i=true->cellsEq cs ds=some b->VRL ρ cs cs'->VRL ρ ds ds'->
 (∀j v,cs'[j]? =some v->xs[i+j]? =some v)->(∀j v,ds'[j]? =some v->ys[i+j]? =some v)->(Op.eqFields (n+1) xs ys fs).run P w= .ok b w/\(b=true->ds'=cs')
 |[],[],ds,i,b,cs',ds',hk,h,hx,hy,h1,h2=>by
  cases hx;cases ds with
  |nil=>cases hy;cases h;exact⟨rfl,fun _=>rfl⟩
  |cons _ _=>cases h
 |[],_::_,ds,i,b,cs',ds',hk,h,hx,hy,h1,h2=>by cases hk
 |_::_,[],ds,i,b,cs',ds',hk,h,hx,hy,h1,h2=>by cases hk
 |f::fs,c::cs,ds,i,b,cs',ds',hk,h,hx,hy,h1,h2=>by
  cases ds with
  |nil=>cases h
  |cons d ds=>
   cases hx with
   |cons _ v _ vs g1 g2=>cases hy with
    |cons _ u _ us q1 q2=>
     simp only[cellsOk,Bool.and_eq_true,bne_iff_ne,ne_eq,decide_eq_true_eq] at hk;obtain⟨⟨⟨k1,k2⟩,k3⟩,k4⟩:=hk;cases hu:P.underlying f.type with
     |none=>rw[hu] at k3;cases k3
     |some e=>
      rw[hu] at k3;have p1:=part_cell hu (cellOk_agg k3) (h1 0 v rfl) w;have p2:=part_cell hu (cellOk_agg k3) (h2 0 u rfl) w;rw[Nat.add_zero] at p1 p2;unfold cellsEq at h;cases hc:cellEq c d with
      |none=>rw[hc] at h;cases h
      |some b0=>
       rw[hc] at h;obtain⟨r1,_,r2⟩:=cellEq_ok (n:=n) hu k3 hc g1 q1 w;cases b0 with
       |false=>
        cases h;refine⟨?_,fun h=>by cases h⟩;unfold Op.eqFields;rw[if_pos k1,k2];simp only[Sem.run_bind,p1,p2,Result.andThen_ok,r1];rfl
       |true=>
        obtain⟨e1,e2⟩:=cellsEq_ok w k4 h g2 q2 (fun j v hv=>by rw[show i+1+j=i+(j+1) by omega];exact h1 (j+1) v (by simpa using hv)) (fun j v hv=>by rw[show i+1+j=i+(j+1) by omega];exact h2 (j+1) v (by simpa using hv));refine⟨?_,fun h=>by rw[r2 rfl,e2 h]⟩;unfold Op.eqFields;rw[if_pos k1,k2];simp only[Sem.run_bind,p1,p2,Result.andThen_ok,r1];exact e1
theorem run_structEq{t:TypeId}{fs:Array Field}{cs ds:List AV}{xs ys:Array Value}{b:Bool}{n:Nat}(hu:P.underlying t=some (.struct fs))(hs:P.stoodInHeld t=false)(hk:cellsOk P fs.toList cs 0=true)(h:cellsEq cs ds=some b)(hx:VRL ρ cs xs.toList)(hy:VRL ρ ds ys.toList)(w:World):
 (Op.equalIn (n+2) t (.agg xs) (.agg ys)).run P w= .ok b w/\(b=true->ys=xs):=by
 have hf:P.fieldsOf t=fs:=by simp[Program.fieldsOf,hu]
 obtain⟨h1,h2⟩:=cellsEq_ok (n:=n) (xs:=xs) (ys:=ys) w hk h hx hy (fun j v hv=>by simpa using hv) (fun j v hv=>by simpa using hv);refine⟨?_,fun h=>Array.ext' (h2 h)⟩;rw[run_equalIn_struct w (n+1) t xs ys (by rw[hf];exact hu) hs,hf];exact h1
theorem takeN_len:∀{n:Nat} {l r:List AV},takeN n l=some r->r=l.take n/\n<=l.length
 |0,l,r,h=>by simp[takeN] at h;subst h;simp
 |n+1,x::l,r,h=>by
  unfold takeN at h;split at h
  ·rename_i r' hr
   cases h;obtain⟨h1,h2⟩:=takeN_len hr;subst h1;simpa using h2
  ·cases h
 |n+1,[],r,h=>by simp[takeN] at h
theorem cutL_ok{cs r:List AV}{off n:Nat}(h:cutL cs off n=some r):r=(cs.drop off).take n/\(n=0\/off+n<=cs.length):=by
 obtain⟨h1,h2⟩:=takeN_len h;refine⟨h1,?_⟩;rw[List.length_drop] at h2;omega
theorem VRL.aget{ρ:Env}{l:List AV}{a:Array Value}{i:Nat}{x:AV}(h:VRL ρ l a.toList)(hx:l[i]? =some x):∃v,a[i]? =some v/\VR ρ x v:=by
 have:=h.get i hx;simpa using this
theorem cutL_vr{cs r:List AV}{off n:Nat}{c:Array Value}(h:cutL cs off n=some r)(hc:VRL ρ cs c.toList):VRL ρ r (c.extract off (off+n)).toList:=by
 obtain⟨h1,h2⟩:=cutL_ok h;subst h1
 have:(c.extract off (off+n)).toList=(c.toList.drop off).take n:=by
  rw[Array.toList_extract,List.extract_eq_take_drop];congr 1;omega
 rw[this];exact(hc.drop off).take n
theorem part_ok{t:TypeId}{cs:List AV}{c:Array Value}{off:Nat}{v:AV}(h:partA P t cs off=some v)(hc:VRL ρ cs c.toList):∃v',(part t c off).run P w= .ok v' w/\VR ρ v v':=by
 unfold partA at h;split at h
 ·rename_i n ha hs
  split at h
  ·rename_i l hl
   cases h;exact⟨.agg (c.extract off (off+n)),by simp[part,run_agg ha,run_szOf hs],.agg _ _ (cutL_vr hl hc)⟩
  ·cases h
 ·rename_i ha
  obtain⟨v',h1,h2⟩:=hc.aget h;exact⟨v',by simp[part,run_agg ha,h1],h2⟩
 ·cases h
theorem eqFs_ok{E:TypeId->AV->AV->Option Bool}{n:Nat}(hE:∀{t x y b x' y'} (w:World),E t x y=some b->VR ρ x x'->VR ρ y y'->(Op.equalIn n t x' y').run P w= .ok b w){cs ds:List AV}{xs ys:Array Value}(hx:VRL ρ cs xs.toList)(hy:VRL ρ ds ys.toList)(w:World):
 ∀{fs:List Field} {b:Bool},eqFs P E fs cs ds=some b->(Op.eqFields n xs ys fs).run P w= .ok b w
 |[],b,h=>by cases h;rfl
 |f::fs,b,h=>by
  unfold eqFs at h;split at h
  ·rename_i hn
   split at h
   ·rename_i a c ha hc
    obtain⟨a',p1,v1⟩:=part_ok (w:=w) ha hx;obtain⟨c',p2,v2⟩:=part_ok (w:=w) hc hy;have hn':f.name≠ "_":=by simpa using hn
    unfold Op.eqFields;rw[if_pos hn'];cases he:E f.type a c with
    |none=>rw[he] at h;cases h
    |some r=>
     have h3:=hE w he v1 v2;simp only[Sem.run_bind,p1,p2,Result.andThen_ok,h3];rw[he] at h;cases r with
     |true=>exact eqFs_ok hE hx hy w h
     |false=>cases h;rfl
   ·cases h
  ·cases h
theorem eqD_ok:∀(d:Nat) {t:TypeId} {x y:AV} {x' y':Value} {b:Bool} (w:World) (n:Nat),eqD P d t x y=some b->VR ρ x x'->VR ρ y y'->(Op.equalIn (n+d) t x' y').run P w= .ok b w
 |0,t,x,y,x',y',b,w,n,h,hx,hy=>by cases h
 |d+1,t,x,y,x',y',b,w,n,h,hx,hy=>by
  unfold eqD at h;split at h
  ·rename_i fs cs ds hu
   split at h
   ·cases h
   ·rename_i hs
    have hf:P.fieldsOf t=fs:=by simp[Program.fieldsOf,hu]
    cases hx with
    |agg _ xs hx1=>cases hy with
     |agg _ ys hy1=>
      rw[show n+(d+1)=(n+d)+1 by omega,run_equalIn_struct w (n+d) t xs ys (by rw[hf];exact hu) (by simpa using hs),hf];exact eqFs_ok (fun w he h1 h2=>eqD_ok d w n he h1 h2) hx1 hy1 w h
  ·rename_i hu hng
   split at h
   ·rename_i hk
    exact(cellEq_ok (n:=n+d) hu hk h hx hy w).1
   ·cases h
  ·cases h
theorem eqS_ok{t:TypeId}{d:TypeDesc}{x y:AV}{x' y':Value}{b:Bool}(h:eqS P t d x y=some b)(hd:P.underlying t=some d)(hx:VR ρ x x')(hy:VR ρ y y')(op:BinOp)(X Y:Operand)(w:World):
 ∃xs ys,x'= .agg xs/\y'= .agg ys/\(eqGuard op t X Y x' y').run P w= .ok () w/\(Op.equalIn 10000 t (.agg xs) (.agg ys)).run P w= .ok b w:=by
 unfold eqS at h;split at h
 ·split at h
  ·rename_i hg
   simp only[Bool.not_eq_true'] at hg;have:=fun x' y'=>eqD_ok (P:=P) (ρ:=ρ) 5 (x':=x') (y':=y') w 9995 h;cases hx with
   |agg _ xs hx1=>cases hy with
    |agg _ ys hy1=>exact⟨xs,ys,rfl,rfl,run_eqGuard_agg w op t X Y xs ys hg,this _ _ (.agg _ _ hx1) (.agg _ _ hy1)⟩
  ·cases h
 ·cases h
theorem bop_ok{op:BinOp}{t:TypeId}{X Y:Operand}{x y:AV}{x' y':Value}{v:AV}(h:bop P t op (P.underlying t) (isConst X||isConst Y) x y=some v)(hx:VR ρ x x')(hy:VR ρ y y'):
 ∃v',(do eqGuard op t X Y x' y';binOp op t x' y':Sem Value).run P w= .ok v' w/\VR ρ v v':=by
 unfold bop at h;split at h
 ·rename_i k a j c
  cases hx;cases hy;split at h
  ·rename_i hk
   obtain⟨v',h1,h2⟩:=iop_ok (P:=P) (ρ:=ρ) (w:=w) (t:=t) h hk;refine⟨v',?_,h2⟩;have:=guard_plain (P:=P) (w:=w) (op:=op) (t:=t) (X:=X) (Y:=Y) (x':= .int k a) (y':= .int j c) (fun a b h=>by cases h.1) (fun h=>by cases h.1);simp[this,h1]
  ·cases h
 ·rename_i l m
  cases hx with
  |str _ hl=>cases hy with
   |str _ hm=>
    obtain⟨v',h1,h2⟩:=sop_ok (P:=P) (ρ:=ρ) (w:=w) (t:=t) h hl hm;refine⟨v',?_,h2⟩;have:=guard_plain (P:=P) (w:=w) (op:=op) (t:=t) (X:=X) (Y:=Y) (x':= .string ⟨(l.map UInt8.ofNat).toArray⟩) (y':= .string ⟨(m.map UInt8.ofNat).toArray⟩) (fun a b h=>by cases h.1) (fun h=>by cases h.1);simp[this,h1]
 ·rename_i n1 n2
  cases hd:P.underlying t with
  |none=>rw[hd] at h;cases op<;>simp at h
  |some d=>
   rw[hd] at h
   have hni:∀{b},eqT d (isConst X||isConst Y) x y=some b->(∀k a,x'≠.int k a)/\(∀a,x'≠.string a)/\(∀k a,x'≠.float k a)/\(∀k a b,x'≠.complex k a b):=by
    intro b hb;unfold eqT at hb;split at hb<;>first|(cases hb;done)|skip
    all_goals
     cases hx;simp
   cases op<;>simp only[reduceCtorEq] at h
   case eql=>
    split at h
    ·rename_i b hb
     cases h;obtain⟨h1,h2,h3,h4⟩:=hni hb;refine⟨.bool b,?_,.bool _⟩;simp only[Sem.run_bind,eqT_guard hb hx hy,Result.andThen_ok];have he:=eqT_ok (w:=w) hb hd hx hy;unfold binOp;split<;>first|(exact absurd rfl (h1 _ _))|(exact absurd rfl (h2 _))|(exact absurd rfl (h3 _ _))|(exact absurd rfl (h4 _ _ _))|(simp_all;done)|skip
    ·split at h
     ·rename_i b hb
      cases h;obtain⟨xs,ys,rfl,rfl,h1,h2⟩:=eqS_ok (P:=P) hb hd hx hy .eql X Y w;refine⟨.bool b,?_,.bool _⟩;simp only[Sem.run_bind,h1,Result.andThen_ok,run_eql_struct,h2]
     ·cases h
   case neq=>
    split at h
    ·rename_i b hb
     cases h;obtain⟨h1,h2,h3,h4⟩:=hni hb;refine⟨.bool !b,?_,.bool _⟩;simp only[Sem.run_bind,eqT_guard hb hx hy,Result.andThen_ok];have he:=eqT_ok (w:=w) hb hd hx hy;unfold binOp;split<;>first|(exact absurd rfl (h1 _ _))|(exact absurd rfl (h2 _))|(exact absurd rfl (h3 _ _))|(exact absurd rfl (h4 _ _ _))|(simp_all;done)|skip
    ·split at h
     ·rename_i b hb
      cases h;obtain⟨xs,ys,rfl,rfl,h1,h2⟩:=eqS_ok (P:=P) hb hd hx hy .neq X Y w;refine⟨.bool !b,?_,.bool _⟩;simp only[Sem.run_bind,h1,Result.andThen_ok,run_neq_struct,h2]
     ·cases h
theorem uop_ok{op:UnOp}{x:AV}{x':Value}{v:AV}(h:uop op x=some v)(hx:VR ρ x x'):∃v',(Op.unary op x').run P w= .ok v' w/\VR ρ v v':=by
 unfold uop at h;split at h
 ·cases hx;cases h;exact⟨_,by simp[Op.unary,Op.intArith],.int _ _⟩
 ·cases hx;cases h;exact⟨_,by simp[Op.unary,Op.intBits],.int _ _⟩
 ·cases hx;cases h;exact⟨_,by simp[Op.unary],.bool _⟩
 ·cases h
end
end Go.Proofs.YtnocnbklhikmnaaGreatDoor.Rk
