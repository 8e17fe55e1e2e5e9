/- Part 31 of the proof. -/
import Derived.Test.YtnocnbklhikmnaaGreatDoorW26
import Derived.Test.YtnocnbklhikmnaaGreatDoorW30
set_option linter.unusedVariables false
set_option maxRecDepth 1000000
set_option maxHeartbeats 16000000
namespace Go.Proofs.YtnocnbklhikmnaaGreatDoor.Rk
open Go Go.RowKit
mutual
def eqA:AV->AV->Bool
 | .top,.top=>true
 | .bool a,.bool b=>a==b
 | .int k a,.int j b=>decide (k=j)&&a==b
 | .str a,.str b=>decide (a=b)
 | .ptr a b,.ptr c d=>Nat.beq a c&&Nat.beq b d
 | .nilp,.nilp=>true
 | .slice a b c d e,.slice a' b' c' d' e'=>Nat.beq a a'&&Nat.beq b b'&&Nat.beq c c'&&Nat.beq d d'&&Nat.beq e e'
 | .nils,.nils=>true
 | .map a,.map b=>Nat.beq a b
 | .nilm,.nilm=>true
 | .func f k l,.func g m n=>Nat.beq f g&&eqL k m&&eqL l n
 | .nilf,.nilf=>true
 | .iface t a,.iface u b=>Nat.beq t u&&eqA a b
 | .nili,.nili=>true
 | .agg a,.agg b=>eqL a b
 | .tuple a,.tuple b=>eqL a b
 |_,_=>false
def eqL:List AV->List AV->Bool
 |[],[]=>true
 |a::l,b::m=>eqA a b&&eqL l m
 |_,_=>false
end
theorem nbeq{a b:Nat}(h:Nat.beq a b=true):a=b:=Nat.eq_of_beq_eq_true h
mutual
theorem eqA_ok:∀(a b:AV),eqA a b=true->a=b
 | .top,b,h=>by cases b<;>first|rfl|(simp[eqA] at h;done)
 | .bool a,b,h=>by cases b<;>first|(simp[eqA] at h;done)|(simp only[eqA,beq_iff_eq] at h;rw[h])
 | .int k a,b,h=>by cases b<;>first|(simp[eqA] at h;done)|(simp only[eqA,Bool.and_eq_true,decide_eq_true_eq,beq_iff_eq] at h;rw[h.1,h.2])
 | .str a,b,h=>by cases b<;>first|(simp[eqA] at h;done)|(simp only[eqA,decide_eq_true_eq] at h;rw[h])
 | .ptr a c,b,h=>by cases b<;>first|(simp only[eqA,Bool.and_eq_true] at h;rw[nbeq h.1,nbeq h.2])|(simp[eqA] at h;done)
 | .nilp,b,h=>by cases b<;>first|rfl|(simp[eqA] at h;done)
 | .slice a1 a2 a3 a4 a5,b,h=>by cases b<;>first|(simp only[eqA,Bool.and_eq_true] at h;rw[nbeq h.1.1.1.1,nbeq h.1.1.1.2,nbeq h.1.1.2,nbeq h.1.2,nbeq h.2])|(simp[eqA] at h;done)
 | .nils,b,h=>by cases b<;>first|rfl|(simp[eqA] at h;done)
 | .map a,b,h=>by cases b<;>first|(simp only[eqA] at h;rw[nbeq h])|(simp[eqA] at h;done)
 | .nilm,b,h=>by cases b<;>first|rfl|(simp[eqA] at h;done)
 | .func f k l,.func g m n,h=>by simp only[eqA,Bool.and_eq_true] at h;rw[nbeq h.1.1,eqL_ok k m h.1.2,eqL_ok l n h.2]
 | .nilf,b,h=>by cases b<;>first|rfl|(simp[eqA] at h;done)
 | .iface t a,.iface u c,h=>by simp only[eqA,Bool.and_eq_true] at h;rw[nbeq h.1,eqA_ok a c h.2]
 | .nili,b,h=>by cases b<;>first|rfl|(simp[eqA] at h;done)
 | .agg a,.agg c,h=>by simp only[eqA] at h;rw[eqL_ok a c h]
 | .tuple a,.tuple c,h=>by simp only[eqA] at h;rw[eqL_ok a c h]
 | .yield a,b,h=>by cases b<;>simp[eqA] at h
theorem eqL_ok:∀(l m:List AV),eqL l m=true->l=m
 |[],[],_=>rfl
 |a::l,b::m,h=>by simp only[eqL,Bool.and_eq_true] at h;rw[eqA_ok a b h.1,eqL_ok l m h.2]
 |[],_::_,h=>by simp[eqL] at h
 |_::_,[],h=>by simp[eqL] at h
end
def eqM:List ME->List ME->Bool
 |[],[]=>true
 |a::l,b::m=>eqA a.k b.k&&eqA a.v b.v&&Nat.beq a.born b.born&&eqM l m
 |_,_=>false
theorem eqM_ok:∀(l m:List ME),eqM l m=true->l=m
 |[],[],_=>rfl
 |⟨k,v,n⟩::l,⟨k',v',n'⟩::m,h=>by
  simp only[eqM,Bool.and_eq_true] at h;rw[eqA_ok _ _ h.1.1.1,eqA_ok _ _ h.1.1.2,nbeq h.1.2,eqM_ok l m h.2]
 |[],_::_,h=>by simp[eqM] at h
 |_::_,[],h=>by simp[eqM] at h
def eqB:ABlk->ABlk->Bool
 | .cells t cs,.cells u ds=>Nat.beq t u&&eqL cs ds
 | .map es c,.map fs d=>Nat.beq c d&&eqM es fs
 | .miter m a b c,.miter m' a' b' c'=>decide (m=m')&&decide (a=a')&&decide (b=b')&&decide (c=c')
 | .siter l p,.siter m q=>decide (l=m)&&decide (p=q)
 | .pmap es,.pmap fs=>eqM es fs
 | .defd,.defd=>true
 | .dead,.dead=>true
 |_,_=>false
theorem eqB_ok:∀(x y:ABlk),eqB x y=true->x=y
 | .cells t cs,.cells u ds,h=>by simp only[eqB,Bool.and_eq_true] at h;rw[nbeq h.1,eqL_ok _ _ h.2]
 | .map es c,.map fs d,h=>by simp only[eqB,Bool.and_eq_true] at h;rw[nbeq h.1,eqM_ok _ _ h.2]
 | .miter m a b c,.miter m' a' b' c',h=>by simp only[eqB,Bool.and_eq_true,decide_eq_true_eq] at h;rw[h.1.1.1,h.1.1.2,h.1.2,h.2]
 | .siter l p,.siter m q,h=>by simp only[eqB,Bool.and_eq_true,decide_eq_true_eq] at h;rw[h.1,h.2]
 | .pmap es,.pmap fs,h=>by simp only[eqB] at h;rw[eqM_ok _ _ h]
 | .defd,y,h=>by cases y<;>first|rfl|(simp[eqB] at h;done)
 | .dead,y,h=>by cases y<;>first|rfl|(simp[eqB] at h;done)
 | .loop ..,y,h=>by cases y<;>simp[eqB] at h
structure OE where
 b:Nat
 pre:ABlk
 post:ABlk
 wr:Bool
structure Memo where
 f:FuncId
 args:List AV
 n0:Nat
 old:List OE
 v:AV
 n1:Nat
 new:List (Nat×ABlk)
def lenB:ABlk->Nat
 | .cells _ cs=>cs.length
 |_=>1
def OE.le(o:OE):LE:=if o.wr then .all o.b else .rd o.b 0 (lenB o.pre)
def putAll{α:Type}(h:Tr α):List (Nat×α)->Tr α
 |[]=>h
 |p::l=>putAll (h.set p.1 p.2) l
def Memo.posts(M:Memo):List (Nat×ABlk):=M.old.map (fun o=>(o.b,o.post))++M.new
def Memo.start(M:Memo):St:=⟨putAll .leaf (M.old.map fun o=>(o.b,o.pre)),M.n0,[]⟩
def sameAt(h:Tr ABlk)(b:Nat)(x:ABlk):Bool:=match h.get b with
 |some y=>eqB y x
 |none=>false
def oMemo(M:Memo)(args:List AV)(s:St):Option (AV×St):=
 if Nat.beq s.n M.n0&&eqL args M.args&&M.old.all (fun o=>sameAt s.heap o.b o.pre) then some (M.v,⟨putAll s.heap M.posts,M.n1,M.old.map OE.le++s.log⟩) else none
def isLive:ABlk->Bool
 | .dead=>false
 |_=>true
def covers:LE->LE->Bool
 | .all b,e=>Nat.beq b e.blk
 | .rd b i n,.rd c j k=>Nat.beq b c&&Nat.ble i j&&Nat.ble (j+k) (i+n)
 |_,_=>false
def covered(c:Tr LE)(e:LE):Bool:=match c.get e.blk with
 |some m=>covers m e
 |none=>false
def Memo.check(M:Memo)(r:Option (Res×St)):Bool:=match r with
 |some (.ret v,q)=>eqA v M.v&&Nat.beq q.n M.n1&&q.log.all (covered (putAll .leaf (M.old.map fun o=>(o.b,o.le))))&&M.posts.all (fun p=>sameAt q.heap p.1 p.2)&&M.old.all (fun o=>isLive o.pre&&Nat.ble (o.b+1) M.n0&&(o.wr||eqB o.post o.pre))&&M.new.all (fun p=>Nat.ble M.n0 p.1&&Nat.ble (p.1+1) M.n1)&&Nat.ble M.n0 M.n1
 |_=>false
theorem putAll_get{α:Type}{b:Nat}{y:α}:∀{l:List (Nat×α)} {h:Tr α},(putAll h l).get b=some y->(b,y)∈l\/(h.get b=some y/\∀z,(b,z)∉l)
 |[],h,hg=> .inr ⟨hg,fun z hz=>by cases hz⟩
 |(c,x)::l,h,hg=>by
  rcases putAll_get (l:=l) hg with h1|⟨h1,h2⟩
  ·exact .inl (List.mem_cons_of_mem _ h1)
  ·rw[Tr.get_set] at h1
   by_cases hbc:b=c
   ·rw[if_pos hbc] at h1
    cases h1;subst hbc;exact .inl (List.mem_cons_self ..)
   ·rw[if_neg hbc] at h1
    refine .inr ⟨h1,fun z hz=> ?_⟩;rcases List.mem_cons.1 hz with h3|h3
    ·cases h3;exact hbc rfl
    ·exact h2 z h3
theorem covers_at{m e:LE}(h:covers m e=true){b i:Nat}(he:e.at b i):m.at b i:=by
 cases m with
 |wr c j n=>cases e<;>cases h
 |all c=>
  have hb:c=e.blk:=nbeq h;cases e with
  |rd d j n=>obtain⟨rfl,_⟩:=he;exact hb
  |wr d j n=>obtain⟨rfl,_⟩:=he;exact hb
  |all d=>cases he;exact hb
 |rd c j n=>
  cases e with
  |wr _ _ _=>cases h
  |all _=>cases h
  |rd d k l=>
   simp only[covers,Bool.and_eq_true] at h;have hb:=nbeq h.1.1;have h1:=Nat.le_of_ble_eq_true h.1.2;have h2:=Nat.le_of_ble_eq_true h.2;obtain⟨rfl,h3,h4⟩:=he;exact⟨hb,by omega,by omega⟩
theorem covers_blk{m e:LE}(h:covers m e=true):m.blk=e.blk:=by
 cases m with
 |wr c j n=>cases e<;>cases h
 |all c=>exact nbeq h
 |rd c j n=>
  cases e with
  |wr _ _ _=>cases h
  |all _=>cases h
  |rd d k l=>
   simp only[covers,Bool.and_eq_true] at h;exact nbeq h.1.1
theorem covers_all{m:LE}{b:Nat}(h:covers m (.all b)=true):m= .all b:=by
 cases m with
 |wr c j n=>cases h
 |rd c j n=>cases h
 |all c=>rw[show c=b from nbeq h]
theorem covers_wr{m:LE}{b i n:Nat}(h:covers m (.wr b i n)=true):m= .all b:=by
 cases m with
 |wr c j n=>cases h
 |rd c j n=>cases h
 |all c=>rw[show c=b from nbeq h]
theorem sameAt_ok{h:Tr ABlk}{b:Nat}{x:ABlk}(hs:sameAt h b x=true):h.get b=some x:=by
 unfold sameAt at hs;split at hs
 ·rename_i y hy
  rw[hy,eqB_ok _ _ hs]
 ·cases hs
theorem isLive_ok{x:ABlk}(h:isLive x=true):live x:=by cases x<;>first|trivial|cases h
section
variable {P:Program} {ρ:Env} {T:Nat->Nat->Prop} {s s':St} {w w':World}
theorem Good.sub{h h2:Nat->Option ABlk}(hG:Good ρ T h w)(hs:∀b y,h2 b=some y->h b=some y):Good ρ T h2 w:=
 ⟨fun b x hb=>hG.sat b x (hs b x hb),fun b b' r r' x x' hx hx'=>hG.inj b b' r r' x x' (hs b x hx) (hs b' x' hx'),hG.old⟩
def ToldT(P:Program)(f:FuncId)(g:List AV->St->Option (AV×St)):Prop:=∀args s v s',g args s=some (v,s')->WfS s->Mono s s'/\∀(ρ:Env) (T:Nat->Nat->Prop) (w:World) (vs:Array Value),Pre ρ T s s' w->VRL ρ args vs.toList->
 (∀w1,(callFunc f vs).run P w1= .ok (.enter f vs) w1)/\∀n,CallsIn Fence.wide n P f vs w (fun e w'=>∃ρ',Post ρ T s w ρ' s' w'/\ResR ρ' (.ret v) e)
def oOr(g1 g2:List AV->St->Option (AV×St)):List AV->St->Option (AV×St):=fun args s=>match g1 args s with
 |some r=>some r
 |none=>g2 args s
theorem ToldT.or{f:FuncId}{g1 g2:List AV->St->Option (AV×St)}(h1:ToldT P f g1)(h2:ToldT P f g2):ToldT P f (oOr g1 g2):=by
 intro args s v s' h hwf;unfold oOr at h;split at h
 ·rename_i r hr
  cases h;exact h1 args s v s' hr hwf
 ·exact h2 args s v s' h hwf
def addT(O:Told)(f0:FuncId)(g:List AV->St->Option (AV×St)):Told:=fun f=>bif Nat.beq f f0 then some (match O f with
 |some g0=>oOr g g0
 |none=>g) else O f
theorem TSound.add{O:Told}{f0:FuncId}{g:List AV->St->Option (AV×St)}(hO:TSound P O)(hg:ToldT P f0 g):TSound P (addT O f0 g):=by
 intro f g1 h;unfold addT at h;cases hb:Nat.beq f f0 with
 |false=>rw[hb] at h;exact hO f g1 h
 |true=>
  rw[hb] at h;have hf:=nbeq hb;subst hf;simp only[cond_true,Option.some.injEq] at h;cases hO0:O f with
  |none=>rw[hO0] at h;subst h;exact hg
  |some g0=>rw[hO0] at h;subst h;exact hg.or (hO f g0 hO0)
theorem told_memo{O:Told}(hP:plainFuncs P=true)(hm:P.follows .mixedOrders=true)(hO:TSound P O)(fuel d:Nat)(M:Memo)(hc:M.check (call P O (dcall P fuel) fuel d M.f M.args M.start)=true):ToldT P M.f (oMemo M):=by
 unfold Memo.check at hc;split at hc
 ·rename_i r0 v0 q hq
  simp only[Bool.and_eq_true,List.all_eq_true] at hc;obtain⟨⟨⟨⟨⟨⟨c1,c2⟩,c3⟩,c4⟩,c5⟩,c6⟩,c7⟩:=hc;have e1:=eqA_ok _ _ c1;have e2:=nbeq c2;have e7:=Nat.le_of_ble_eq_true c7;subst e1
  have hold:∀o∈M.old,live o.pre/\o.b<M.n0/\(o.wr=true\/o.post=o.pre):=fun o ho=>by
   have:=c5 o ho;simp only[Bool.or_eq_true] at this;exact⟨isLive_ok this.1.1,Nat.le_of_ble_eq_true this.1.2,this.2.elim .inl (fun h=> .inr (eqB_ok _ _ h))⟩
  have hposts:∀b y,(b,y)∈M.posts->q.heap.get b=some y/\((∃o∈M.old,o.b=b/\o.post=y)\/(M.n0<=b/\b<M.n1)):=fun b y hy=>by
   refine⟨sameAt_ok (c4 (b,y) hy),?_⟩;rcases List.mem_append.1 hy with h1|h1
   ·obtain⟨o,ho,he⟩:=List.mem_map.1 h1
    cases he;exact .inl ⟨o,ho,rfl,rfl⟩
   ·have:=c6 (b,y) h1
    exact .inr ⟨Nat.le_of_ble_eq_true this.1,Nat.le_of_ble_eq_true this.2⟩
  have hpostin:∀o∈M.old,(o.b,o.post)∈M.posts:=fun o ho=>List.mem_append_left _ (List.mem_map.2 ⟨o,ho,rfl⟩)
  have hcov:∀e∈q.log,∃o∈M.old,covers o.le e=true:=fun e he=>by
   have:=c3 e he;unfold covered at this;split at this
   ·rename_i m hm1
    rcases putAll_get hm1 with h1|⟨h1,_⟩
    ·obtain⟨o,ho,he2⟩:=List.mem_map.1 h1
     have:=(Prod.mk.inj he2).2;subst this;exact⟨o,ho,by assumption⟩
    ·cases h1
   ·cases this
  have hleblk:∀o:OE,o.le.blk=o.b:=fun o=>by unfold OE.le;split<;>rfl
  have hst:∀b x,M.start.heap.get b=some x->∃o∈M.old,o.b=b/\o.pre=x:=fun b x hb=>by
   rcases putAll_get hb with h1|⟨h1,_⟩
   ·obtain⟨o,ho,he⟩:=List.mem_map.1 h1
    cases he;exact⟨o,ho,rfl,rfl⟩
   ·cases h1
  have hwf0:WfS M.start:=fun b hb=>by
   cases hx:M.start.heap.get b with
   |none=>rfl
   |some x=>
    obtain⟨o,ho,rfl,_⟩:=hst b x hx;have h1:M.n0<=o.b:=hb;have:=(hold o ho).2.1;omega
  obtain⟨m0,k⟩:=call_ok hP hm hO (dsound hP hm fuel) fuel d M.f M.args _ _ _ hq hwf0;intro args s v s' h hwf;unfold oMemo at h;split at h
  ·rename_i hcond
   cases h;simp only[Bool.and_eq_true,List.all_eq_true] at hcond;obtain⟨⟨d2,d1⟩,d3⟩:=hcond;have f1:=eqL_ok _ _ d1;have f2:=nbeq d2;subst f1;have hsold:∀o∈M.old,s.heap.get o.b=some o.pre:=fun o ho=>sameAt_ok (d3 o ho)
   have hget:∀b y,(putAll s.heap M.posts).get b=some y->(q.heap.get b=some y/\((∃o∈M.old,o.b=b/\o.post=y)\/(M.n0<=b/\b<M.n1)))\/(s.heap.get b=some y/\∀o∈M.old,o.b≠b):=fun b y hy=>by
    rcases putAll_get hy with h1|⟨h1,h2⟩
    ·exact .inl (hposts b y h1)
    ·exact .inr ⟨h1,fun o ho e=>h2 o.post (by rw[<-e];exact hpostin o ho)⟩
   have hgetsome:∀b y,s.heap.get b=some y->(∀o∈M.old,o.b≠b)->b<M.n0->(putAll s.heap M.posts).get b=some y:=fun b y hy hno hb=>by
    have:∀(l:List (Nat×ABlk)) (h:Tr ABlk),(∀z,(b,z)∉l)->(putAll h l).get b=h.get b:=by
     intro l
     induction l with
     |nil=>intro h _;rfl
     |cons p l ih=>
      intro h hn;show(putAll (h.set p.1 p.2) l).get b=_
      rw[ih _ (fun z hz=>hn z (List.mem_cons_of_mem _ hz)),Tr.get_set,if_neg (fun e=>hn p.2 (by rw[e];exact List.mem_cons_self ..))]
    rw[this _ _ (fun z hz=>by
     rcases(hposts b z hz).2 with⟨o,ho,h1,_⟩|h1
     ·exact hno o ho h1
     ·omega)]
    exact hy
   have hgetold:∀o∈M.old,(putAll s.heap M.posts).get o.b=some o.post:=fun o ho=>by
    have hex:∀(l:List (Nat×ABlk)) (h:Tr ABlk) (x:ABlk),(o.b,x)∈l->∃y,(putAll h l).get o.b=some y:=by
     intro l
     induction l with
     |nil=>intro h x hx;cases hx
     |cons p l ih=>
      intro h x hx;by_cases hin:∃z,(o.b,z)∈l
      ·obtain⟨z,hz⟩:=hin
       exact ih _ z hz
      ·rcases List.mem_cons.1 hx with h1|h1
       ·have:∀(l:List (Nat×ABlk)) (h:Tr ABlk),(∀z,(o.b,z)∉l)->(putAll h l).get o.b=h.get o.b:=by
         intro l
         induction l with
         |nil=>intro h _;rfl
         |cons p l ih=>
          intro h hn;show(putAll (h.set p.1 p.2) l).get o.b=_
          rw[ih _ (fun z hz=>hn z (List.mem_cons_of_mem _ hz)),Tr.get_set,if_neg (fun e=>hn p.2 (by rw[e];exact List.mem_cons_self ..))]
        subst h1;refine⟨x,?_⟩;show(putAll (h.set o.b x) l).get o.b=_
        rw[this _ _ (fun z hz=>hin ⟨z,hz⟩),Tr.get_set,if_pos rfl]
       ·exact absurd ⟨x,h1⟩ hin
    obtain⟨y,hy⟩:=hex M.posts s.heap o.post (hpostin o ho);rcases hget _ _ hy with⟨h1,_⟩|⟨_,h1⟩
    ·rw[hy,<-h1,(hposts _ _ (hpostin o ho)).1]
    ·exact absurd rfl (h1 o ho)
   refine⟨⟨by show s.n<=M.n1;omega,fun e he=>List.mem_append_right _ he,fun _ b hb=> ?_,fun _ b x hx hn=> ?_,fun _ b x' hb hx hl=> ?_,fun _ e he=> ?_,fun _ hb e he=> ?_⟩,fun ρ T w vs hp hargs=> ?_⟩
   ·show(putAll s.heap M.posts).get b=none
    cases hx:(putAll s.heap M.posts).get b with
    |none=>rfl
    |some y=>
     have h1:M.n1<=b:=hb;rcases hget b y hx with⟨_,⟨o,ho,rfl,_⟩|h2⟩|⟨h2,_⟩
     ·have:=(hold o ho).2.1;omega
     ·omega
     ·rw[hwf b (by omega)] at h2;cases h2
   ·show Keep _ b x ((putAll s.heap M.posts).get b)
    by_cases hin:∃o∈M.old,o.b=b
    ·obtain⟨o,ho,rfl⟩:=hin
     rw[hsold o ho] at hx;cases hx;rw[hgetold o ho];rcases(hold o ho).2.2 with h1|h1
     ·exact absurd (List.mem_append_left _ (List.mem_map.2 ⟨o,ho,by unfold OE.le;rw[if_pos h1]⟩)) hn
     ·rw[h1];exact Keep.refl _ _ _
    ·have hno:∀o∈M.old,o.b≠b:=fun o ho e=>hin ⟨o,ho,e⟩
     rw[hgetsome b x hx hno (by have:=lt_n hwf hx;omega)];exact Keep.refl _ _ _
   ·rcases hget b x' hx with⟨_,⟨o,ho,rfl,_⟩|h2⟩|⟨h2,_⟩
    ·exact⟨_,hsold o ho,(hold o ho).1⟩
    ·omega
    ·exact⟨x',h2,hl⟩
   ·rcases List.mem_append.1 he with h1|h1
    ·obtain⟨o,ho,rfl⟩:=List.mem_map.1 h1
     exact .inr (.inr ⟨_,by rw[hleblk];exact hsold o ho,(hold o ho).1⟩)
    ·exact .inl h1
   ·show e.blk<M.n1
    rcases List.mem_append.1 he with h1|h1
    ·obtain⟨o,ho,rfl⟩:=List.mem_map.1 h1
     rw[hleblk];have:=(hold o ho).2.1;omega
    ·have:=hb e h1;omega
   ·have hlein:∀o∈M.old,o.le∈M.old.map OE.le++s.log:=fun o ho=>List.mem_append_left _ (List.mem_map.2 ⟨o,ho,rfl⟩)
    have hcovT:∀e∈q.log,∀b i,e.at b i->T b i/\∃o∈M.old,o.b=b:=fun e he b i hi=>by
     obtain⟨o,ho,hco⟩:=hcov e he;have h1:=covers_at hco hi;have h2:=at_blk' hi;have h3:=covers_blk hco;rw[hleblk] at h3;exact⟨hp.cov o.le (hlein o ho) (by rw[hleblk];have:=(hold o ho).2.1;omega) b i h1,o,ho,h3.trans h2⟩
    have hpre:Pre ρ (fun b i=>T b i/\∃o∈M.old,o.b=b) M.start q w:=by
     refine⟨⟨fun b x hx hT=> ?_,fun b b' r r' x x' hx hx' hl hl' hT hT'=> ?_,hp.good.old⟩,fun e he hb b i hi=>hcovT e he b i hi,fun b h1 h2=>hp.fresh b (by have:M.n0<=b:=h1;omega) (by show b<M.n1;omega),hwf0,fun b i hi=>by have:=hp.tn b i hi.1;show b<M.n0;omega⟩
     ·obtain⟨o,ho,rfl,rfl⟩:=hst b x hx
      obtain⟨i,hi,_⟩:=hT;exact(hp.good.sat _ _ (hsold o ho) ⟨i,hi⟩).mono (Env.le_refl _) (fun _ h=>h.1) (fun _ _=>rfl)
     ·obtain⟨o,ho,rfl,rfl⟩:=hst b x hx
      obtain⟨o',ho',rfl,rfl⟩:=hst b' x' hx';obtain⟨i,hi,_⟩:=hT;obtain⟨i',hi',_⟩:=hT';exact hp.good.inj _ _ r r' _ _ (hsold o ho) (hsold o' ho') hl hl' ⟨i,hi⟩ ⟨i',hi'⟩
    obtain⟨hen,hca⟩:=k ρ _ w vs hpre hargs;refine⟨hen,fun n=>(hca n).mono ?_⟩;rintro e w' ⟨ρ',hpost,hres⟩;refine⟨ρ',⟨hpost.ext,fun b r hr=> ?_,fun b r h1 h2 h3=> ?_,?_,?_⟩,hres⟩
    ·rcases hpost.new b r hr with h1|⟨h1,h2⟩
     ·exact .inl h1
     ·exact .inr ⟨by have:M.n0<=b:=h1;omega,by show b<M.n1;omega⟩
    ·obtain⟨b1,r1,g1,g2,g3⟩:=hpost.fr b r h1 h2 h3
     obtain⟨o,ho,hco⟩:=hcov _ g1;have:o.le= .all b1:=covers_all hco;exact⟨b1,r1,by rw[<-this];exact hlein o ho,g2,g3⟩
    ·haveI:=fun b=>Classical.propDecidable ((∃o∈M.old,o.b=b)\/(M.n0<=b/\b<M.n1))
     have hfull:=good_frame (h':=fun b=>if(∃o∈M.old,o.b=b)\/(M.n0<=b/\b<M.n1) then q.heap.get b else s.heap.get b) hp.good hpre hpost m0 rfl (fun b i h=>h.1) (fun b ⟨i,_,o,ho,hb⟩=>by
      subst hb;exact⟨_,hsold o ho,(hold o ho).1⟩) (fun b i h1 h2 h3=>by
      have:=hp.tn b i h3;have h4:M.n0<=b:=h1;omega) (fun e he hb i hi=>hcovT e he _ i hi) (fun b h1 h2=>if_pos (.inr ⟨h1,by omega⟩)) (fun b y hT hn hy hl=>by
      obtain⟨i,hi⟩:=hT;rw[if_neg] at hy
      ·exact hy
      ·rintro(h1|h1)
       ·exact hn i ⟨hi,h1⟩
       ·have:=hp.tn b i hi
        omega) (fun b y' hT hy hl=>by
      obtain⟨i,hi,o,ho,hb⟩:=hT;rw[if_pos (.inl ⟨o,ho,hb⟩)] at hy;refine⟨y',hy,hl,?_⟩;subst hb;have hz:s.heap.get o.b=some o.pre:=hsold o ho;cases y' with
      |cells t cs'=>
       refine⟨cs',rfl,rfl,fun _ _=>rfl,?_⟩;by_cases hall:LE.all o.b∈q.log
       ·exact .inl (fun j=>hcovT _ hall _ j rfl)
       ·cases hstart:M.start.heap.get o.b with
        |none=>
         obtain⟨z,hz1,_⟩:=m0.lv hwf0 o.b _ (hold o ho).2.1 hy hl;rw[hstart] at hz1;cases hz1
        |some x=>
         obtain⟨o2,ho2,h5,h6⟩:=hst _ _ hstart;have hx:s.heap.get o.b=some x:=by rw[<-h5,<-h6];exact hsold o2 ho2
         have hkp:=m0.keep hwf0 o.b x hstart hall;have hxl:live x:=by rw[<-h6];exact(hold o2 ho2).1
         cases x with
         |cells t0 cs0=>
          obtain⟨cs2,k1,k2,k3⟩:=hkp;rw[hy] at k1;cases k1
          exact .inr ⟨cs0,hx,fun j hj=>k3 j (fun e he hw=>hj (hcovT e he _ j (by
           cases e with
           |rd=>exact hw.elim
           |all=>exact hw.elim
           |wr c j n=>exact hw)))⟩
         |map a b=>rw[hkp] at hy;cases hy
         |miter a b c d=>rw[hkp] at hy;cases hy
         |siter a b=>rw[hkp] at hy;cases hy
         |pmap a=>rw[hkp] at hy;cases hy
         |defd=>rw[hkp] at hy;cases hy
         |loop a1 a2 a3 a4 a5 a6 a7 a8=>rw[hkp] at hy;cases hy
         |dead=>exact hxl.elim
      |_=>rfl)
     have hn0:M.start.n=s.n:=f2.symm;rw[hn0,e2] at hfull;refine hfull.sub (fun b y hy=> ?_);show(if _ then _ else _)=_
     rcases hget b y hy with⟨h1,⟨o,ho,hb,_⟩|h2⟩|⟨h1,h2⟩
     ·rw[if_pos (.inl ⟨o,ho,hb⟩)];exact h1
     ·rw[if_pos (.inr h2)];exact h1
     ·rw[if_neg]
      ·exact h1
      ·rintro(⟨o,ho,hb⟩|h3)
       ·exact h2 o ho hb
       ·rw[hwf b (by omega)] at h1;cases h1
    ·have hW:∀B o,Wrt ρ q.log B o->Wrt ρ (M.old.map OE.le++s.log) B o:=by
      rintro B o ⟨e,he,r,h1,h2,h3⟩;obtain⟨o2,ho2,hco⟩:=hcov e he;cases e with
      |rd b i n=>exact h3.elim
      |wr b i n=>exact⟨.all b,by rw[<-covers_wr hco];exact hlein o2 ho2,r,h1,h2,trivial⟩
      |all b=>exact⟨.all b,by rw[<-covers_all hco];exact hlein o2 ho2,r,h1,h2,trivial⟩
     have hA:∀B,All ρ q.log B->All ρ (M.old.map OE.le++s.log) B:=by
      rintro B ⟨b,r,h1,h2,h3⟩;obtain⟨o2,ho2,hco⟩:=hcov _ h1;exact⟨b,r,by rw[<-covers_all hco];exact hlein o2 ho2,h2,h3⟩
     have hu:=hpost.unch;refine⟨hu.os,hu.tape,hu.output,hu.size,fun B hB hn=>hu.block B hB (fun o ho=>hn o (hW B o ho)),fun B c t fr hc hna=> ?_⟩;obtain⟨c',g1,g2,g3⟩:=hu.cells B c t fr hc (fun h=>hna (hA B h));exact⟨c',g1,g2,fun o ho=>g3 o (fun h=>ho (hW B o h))⟩
  ·cases h
 ·cases hc
end
end Go.Proofs.YtnocnbklhikmnaaGreatDoor.Rk
namespace Go.Proofs.YtnocnbklhikmnaaGreatDoor
open Go Go.RowKit Go.BigFrame Go.Maps Go.WideMaps
theorem cl11_any(g pb fb:Nat)(Mu S:Nat->Prop)(cx:M.Cx)(st:M.St)(p:PV)(bs:List Nat)(F u:Nat)(x:M.Node)(w:World)(hpb:Blk w pb 71 #[.pointer (some ⟨g,0,none⟩)])(hfb:Blk w fb 144 #[.int .i64 x.op,.int .i64 x.n,.string x.text,.int .i64 x.num,.string x.path.seg,.int .i64 x.path.occ,.int .i64 x.path.fld,.int .i64 x.path.rep,.int .i64 x.path.comp,.int .i64 x.path.sub])(hgb:Blk w g 77 #[.int .u8 (p.d.f.toNat:Int),.int .u8 (p.d.c.toNat:Int),.int .u8 (p.d.r.toNat:Int),.int .u8 (p.d.e.toNat:Int),.int .u8 (p.d.s.toNat:Int),p.v,p.tv,.string p.now,.int .i64 (F:Nat),.int .i64 (u:Nat),p.rv,.bool p.stop,p.sv])(hp:PlIn w g Mu S cx st p bs)(hx:x.ok64):
 Calls Tryz.prog 163 #[.pointer (some ⟨pb,0,none⟩),.pointer (some ⟨fb,0,none⟩)] w fun e w'=>e=valE (.ok (M.vTruth (M.has st.m x.path)))/\Below w.heap.size w w':=by
 have HE:=q_ (show(.ok (M.vTruth (M.has st.m x.path)):Except Int M.Val)= .ok (M.vTruth (M.has st.m x.path)) by rfl);have K1:=q_ (Blk.new w 37 #[.int .i64 0,.string ⟨#[]⟩,.int .i64 0,.bool false]);have B1:=q_ ((Below.refl _ w).alloc (n_) (.cells #[.int .i64 0,.string ⟨#[]⟩,.int .i64 0,.bool false] 37));have PB:=q_ hpb;have FB:=q_ hfb;obtain⟨A,nn,hv,hok,hl⟩:=hp.msg;have hd:=hp.d;rw[hv] at hgb;have GB:=q_ hgb;have HS:=q_ (fun b (h:S b)=>(hp.far b h).1);have HOK:=q_ hok;have HL:=q_ hl;have HEQ:=q_ (show(⟨p.d,st.m.segs⟩:M.Msg)=st.m by rw[hd]);clear hd hok hl;clear hpb hfb hgb hp;go_enter Tryz.func163,Tryz.ntmps163;go_wp2_with fail;generalize w.alloc (.cells #[.int .i64 0,.string ⟨#[]⟩,.int .i64 0,.bool false] 37)=w1 at K1 B1⊢;refine wp_region_genP (KP:=fun _ _=>False) 8 [] (NewI w1) (by kernel_rfl) (by kernel_rfl) (NewI.start w1) (fun ch a2 w5 hd hk=>hk.elim) ?_
 iterate 8
  apply wpGenP_pure rfl
  ·intro L vs wx hI hR hL K hK
   first
   |have c0:=fun i=>((PB.o.below B1.o PB.o.lt).below hI (Nat.lt_of_lt_of_le PB.o.lt B1.o.size)).cell i
    go_simp;exact hK _ hI
   |have c0:=fun i=>((GB.o.below B1.o GB.o.lt).below hI (Nat.lt_of_lt_of_le GB.o.lt B1.o.size)).cell i
    go_simp;exact hK _ hI
   |have c0:=fun i=>((FB.o.below B1.o FB.o.lt).below hI (Nat.lt_of_lt_of_le FB.o.lt B1.o.size)).cell i
    go_simp;exact hK _ hI
   |go_simp
    exact(has_any p.d A nn st.m.segs x.path S wx (fun b h=>Nat.lt_of_lt_of_le (HS.o b h) (B1.o.trans (hI.mono B1.o.size)).size) HOK.o (HL.o.below (B1.o.trans (hI.mono B1.o.size)) HS.o) hx.2.2.2.2).mono fun e w' ⟨h1,h2⟩=>⟨_,h1,hK _ (hI.trans (h2.mono hI.size))⟩
   |go_simp
    exact(ofTruth_any _ _).mono fun e w' ⟨h1,h2⟩=>⟨_,h1,hK _ (hI.trans (h2.mono hI.size))⟩
  intro KK hKK;go_simp;refine hKK _ ?_;clear hKK KK
 refine wpGenP_nil ?_;intro vs w2 hI;have B2:=q_ (B1.o.trans (hI.mono B1.o.size));have K2:=q_ (K1.o.below hI K1.o.lt);clear hI;intro KK hKK;have hKN:=fun a w h=>hKK .normal a w h;simp only[List.drop_succ_cons];refine wpList_store_V rfl (.tmp 2) (.tmp 10) rfl w.heap.size (M.vTruth (M.has ⟨p.d,st.m.segs⟩ x.path)) (by rfl) (by rfl) (K2.o) rfl ?_;intro w9 k9 g9;have K9:=q_ k9;have B9:=q_ (below_gr B2.o g9 (n_));clear k9 g9;go_wp2_with fail
 (try simp only[Exit.inBlock,Exit.then]);exact bodyPost_ret (val_res rfl K9.o rfl) rfl ⟨by rw[<-HEQ.o];rfl,B9.o⟩
theorem cl12_any(g pb fb:Nat)(Mu S:Nat->Prop)(cx:M.Cx)(st:M.St)(p:PV)(bs:List Nat)(F u:Nat)(x:M.Node)(w:World)(hpb:Blk w pb 71 #[.pointer (some ⟨g,0,none⟩)])(hfb:Blk w fb 144 #[.int .i64 x.op,.int .i64 x.n,.string x.text,.int .i64 x.num,.string x.path.seg,.int .i64 x.path.occ,.int .i64 x.path.fld,.int .i64 x.path.rep,.int .i64 x.path.comp,.int .i64 x.path.sub])(hgb:Blk w g 77 #[.int .u8 (p.d.f.toNat:Int),.int .u8 (p.d.c.toNat:Int),.int .u8 (p.d.r.toNat:Int),.int .u8 (p.d.e.toNat:Int),.int .u8 (p.d.s.toNat:Int),p.v,p.tv,.string p.now,.int .i64 (F:Nat),.int .i64 (u:Nat),p.rv,.bool p.stop,p.sv])(hp:PlIn w g Mu S cx st p bs)(hx:x.ok64):
 Calls Tryz.prog 165 #[.pointer (some ⟨pb,0,none⟩),.pointer (some ⟨fb,0,none⟩)] w fun e w'=>e=valE (.ok (M.vNum (M.count st.m x.text)))/\Below w.heap.size w w':=by
 have HE:=q_ (show(.ok (M.vNum (M.count st.m x.text)):Except Int M.Val)= .ok (M.vNum (M.count st.m x.text)) by rfl);have K1:=q_ (Blk.new w 37 #[.int .i64 0,.string ⟨#[]⟩,.int .i64 0,.bool false]);have B1:=q_ ((Below.refl _ w).alloc (n_) (.cells #[.int .i64 0,.string ⟨#[]⟩,.int .i64 0,.bool false] 37));have PB:=q_ hpb;have FB:=q_ hfb;obtain⟨A,nn,hv,hok,hl⟩:=hp.msg;have hd:=hp.d;rw[hv] at hgb;have GB:=q_ hgb;have HS:=q_ (fun b (h:S b)=>(hp.far b h).1);have HOK:=q_ hok;have HL:=q_ hl;have HEQ:=q_ (show(⟨p.d,st.m.segs⟩:M.Msg)=st.m by rw[hd]);clear hd hok hl;clear hpb hfb hgb hp;go_enter Tryz.func165,Tryz.ntmps165;go_wp2_with fail;generalize w.alloc (.cells #[.int .i64 0,.string ⟨#[]⟩,.int .i64 0,.bool false] 37)=w1 at K1 B1⊢;refine wp_region_genP (KP:=fun _ _=>False) 8 [] (NewI w1) (by kernel_rfl) (by kernel_rfl) (NewI.start w1) (fun ch a2 w5 hd hk=>hk.elim) ?_
 iterate 8
  apply wpGenP_pure rfl
  ·intro L vs wx hI hR hL K hK
   first
   |have c0:=fun i=>((PB.o.below B1.o PB.o.lt).below hI (Nat.lt_of_lt_of_le PB.o.lt B1.o.size)).cell i
    go_simp;exact hK _ hI
   |have c0:=fun i=>((GB.o.below B1.o GB.o.lt).below hI (Nat.lt_of_lt_of_le GB.o.lt B1.o.size)).cell i
    go_simp;exact hK _ hI
   |have c0:=fun i=>((FB.o.below B1.o FB.o.lt).below hI (Nat.lt_of_lt_of_le FB.o.lt B1.o.size)).cell i
    go_simp;exact hK _ hI
   |go_simp
    exact(count_any p.d A nn st.m.segs x.text S wx (fun b h=>Nat.lt_of_lt_of_le (HS.o b h) (B1.o.trans (hI.mono B1.o.size)).size) HOK.o (HL.o.below (B1.o.trans (hI.mono B1.o.size)) HS.o)).mono fun e w' ⟨h1,h2⟩=>⟨_,h1,hK _ (hI.trans (h2.mono hI.size))⟩
   |go_simp
    exact(ofNum_any _ _).mono fun e w' ⟨h1,h2⟩=>⟨_,h1,hK _ (hI.trans (h2.mono hI.size))⟩
  intro KK hKK;go_simp;refine hKK _ ?_;clear hKK KK
 refine wpGenP_nil ?_;intro vs w2 hI;have B2:=q_ (B1.o.trans (hI.mono B1.o.size));have K2:=q_ (K1.o.below hI K1.o.lt);clear hI;intro KK hKK;have hKN:=fun a w h=>hKK .normal a w h;simp only[List.drop_succ_cons];refine wpList_store_V rfl (.tmp 2) (.tmp 10) rfl w.heap.size (M.vNum (M.count ⟨p.d,st.m.segs⟩ x.text)) (by rfl) (by rfl) (K2.o) rfl ?_;intro w9 k9 g9;have K9:=q_ k9;have B9:=q_ (below_gr B2.o g9 (n_));clear k9 g9;go_wp2_with fail
 (try simp only[Exit.inBlock,Exit.then]);exact bodyPost_ret (val_res rfl K9.o rfl) rfl ⟨by rw[<-HEQ.o];rfl,B9.o⟩
theorem cl13_any(g pb fb:Nat)(Mu S:Nat->Prop)(cx:M.Cx)(st:M.St)(p:PV)(bs:List Nat)(F u:Nat)(x:M.Node)(a:List M.Val)(ab ga n c:Nat)(w:World)(hpb:Blk w pb 71 #[.pointer (some ⟨g,0,none⟩)])(hfb:Blk w fb 144 #[.int .i64 x.op,.int .i64 x.n,.string x.text,.int .i64 x.num,.string x.path.seg,.int .i64 x.path.occ,.int .i64 x.path.fld,.int .i64 x.path.rep,.int .i64 x.path.comp,.int .i64 x.path.sub])(hgb:Blk w g 77 #[.int .u8 (p.d.f.toNat:Int),.int .u8 (p.d.c.toNat:Int),.int .u8 (p.d.r.toNat:Int),.int .u8 (p.d.e.toNat:Int),.int .u8 (p.d.s.toNat:Int),p.v,p.tv,.string p.now,.int .i64 (F:Nat),.int .i64 (u:Nat),p.rv,.bool p.stop,p.sv])(hp:PlIn w g Mu S cx st p bs)(hx:x.ok64)(hA:Args w ab ga n c a)(hk:3<=a.length)(hT:M.hasT (tnames cx.tables) x.text=true):
 Calls Tryz.prog 167 #[.pointer (some ⟨pb,0,none⟩),.pointer (some ⟨fb,0,none⟩),.pointer (some ⟨ab,0,none⟩)] w fun e w'=>e=valE (.ok (M.vText ((M.look (M.argAt a 1).text (M.tableOf cx.tables x.text).entries).getD (M.argAt a 2).text)))/\Below w.heap.size w w':=by
 obtain⟨v0,h0,e0⟩:=arg_at (a:=a) (i:=0) (by omega);have O0:=q_ (hA.ok v0 (List.mem_of_getElem? h0));have C0:=q_ (fun(W:World) (h:Below w.heap.size w W)=>(hA.below h).cell 0 v0 h0);obtain⟨v1,h1,e1⟩:=arg_at (a:=a) (i:=1) (by omega);have O1:=q_ (hA.ok v1 (List.mem_of_getElem? h1));have C1:=q_ (fun(W:World) (h:Below w.heap.size w W)=>(hA.below h).cell 1 v1 h1);obtain⟨v2,h2,e2⟩:=arg_at (a:=a) (i:=2) (by omega);have O2:=q_ (hA.ok v2 (List.mem_of_getElem? h2));have C2:=q_ (fun(W:World) (h:Below w.heap.size w W)=>(hA.below h).cell 2 v2 h2);have hlen:=hA.len;have g0:(0<n)=True:=eq_true (by omega);have gi0:((0:Int)<(n:Int))=True:=eq_true (by omega);have gi1:((1:Int)<(n:Int))=True:=eq_true (by omega);have gi2:((2:Int)<(n:Int))=True:=eq_true (by omega);have HE:=q_ (show(.ok (M.vText ((M.look (M.argAt a 1).text (M.tableOf cx.tables x.text).entries).getD (M.argAt a 2).text)):Except Int M.Val)= .ok (M.vText ((M.look v1.text (M.tableOf cx.tables x.text).entries).getD v2.text)) by rw[e1,e2]);have HA:=q_ hA;have K1:=q_ (Blk.new w 37 #[.int .i64 0,.string ⟨#[]⟩,.int .i64 0,.bool false])
 have B1:=q_ ((Below.refl _ w).alloc (n_) (.cells #[.int .i64 0,.string ⟨#[]⟩,.int .i64 0,.bool false] 37));have PB:=q_ hpb;have FB:=q_ hfb;obtain⟨A,nn,hok,hl,hcall⟩:=table_known g Mu S cx st p bs F u x.text w hT hgb hp;have HS:=q_ (fun b (h:S b)=>(hp.far b h).1);have HOK:=q_ hok;have HL:=q_ hl;have HC:=q_ hcall;clear hok hl hcall hT;clear hpb hfb hgb hp hA h0 e0 h1 e1 h2 e2;go_enter Tryz.func167,Tryz.ntmps167;go_wp2_with fail;generalize w.alloc (.cells #[.int .i64 0,.string ⟨#[]⟩,.int .i64 0,.bool false] 37)=w1 at K1 B1⊢;refine wp_region_genP (KP:=fun _ _=>False) 14 [] (NewI w1) (by kernel_rfl) (by kernel_rfl) (NewI.start w1) (fun ch a2 w5 hd hk=>hk.elim) ?_
 iterate 14
  apply wpGenP_pure rfl
  ·intro L vs wx hI hR hL K hK
   first
   |have c0:=fun i=>((PB.o.below B1.o PB.o.lt).below hI (Nat.lt_of_lt_of_le PB.o.lt B1.o.size)).cell i
    go_simp;exact hK _ hI
   |have c0:=fun i=>((FB.o.below B1.o FB.o.lt).below hI (Nat.lt_of_lt_of_le FB.o.lt B1.o.size)).cell i
    go_simp;exact hK _ hI
   |have c0:=(HA.o.below (B1.o.trans (hI.mono B1.o.size))).blk.cell
    go_simp;exact hK _ hI
   |have c0:=(C1.o _ (B1.o.trans (hI.mono B1.o.size))).1
    go_simp;exact hK _ hI
   |have c0:=(C2.o _ (B1.o.trans (hI.mono B1.o.size))).1
    go_simp;exact hK _ hI
   |go_simp
    exact((HC.o _ (B1.o.trans (hI.mono B1.o.size)))).mono fun e w' ⟨h1,h2⟩=>⟨_,h1,hK _ (hI.trans (h2.mono hI.size))⟩
   |go_simp
    exact(textLookup_any (M.tableOf cx.tables x.text).name v1.text v2.text A nn (M.tableOf cx.tables x.text).entries S wx (fun b h=>Nat.lt_of_lt_of_le (HS.o b h) (B1.o.trans (hI.mono B1.o.size)).size) HOK.o (HL.o.below (B1.o.trans (hI.mono B1.o.size)) HS.o) O1.o.text).mono fun e w' ⟨h1,h2⟩=>⟨_,h1,hK _ (hI.trans (h2.mono hI.size))⟩
   |go_simp
    exact(ofText_any _ _).mono fun e w' ⟨h1,h2⟩=>⟨_,h1,hK _ (hI.trans (h2.mono hI.size))⟩
  intro KK hKK;go_simp;refine hKK _ ?_;clear hKK KK
 refine wpGenP_nil ?_;intro vs w2 hI;have B2:=q_ (B1.o.trans (hI.mono B1.o.size));have K2:=q_ (K1.o.below hI K1.o.lt);clear hI;intro KK hKK;have hKN:=fun a w h=>hKK .normal a w h;simp only[List.drop_succ_cons];refine wpList_store_V rfl (.tmp 3) (.tmp 17) rfl w.heap.size (M.vText ((M.look v1.text (M.tableOf cx.tables x.text).entries).getD v2.text)) (by rfl) (by rfl) (K2.o) rfl ?_;intro w9 k9 g9;have K9:=q_ k9;have B9:=q_ (below_gr B2.o g9 (n_));clear k9 g9;go_wp2_with fail
 (try simp only[Exit.inBlock,Exit.then]);exact bodyPost_ret (val_res rfl K9.o rfl) rfl ⟨by rw[HE.o];rfl,B9.o⟩
theorem cl14_any(g pb fb:Nat)(Mu S:Nat->Prop)(cx:M.Cx)(st:M.St)(p:PV)(bs:List Nat)(F u:Nat)(x:M.Node)(a:List M.Val)(ab ga n c:Nat)(w:World)(hpb:Blk w pb 71 #[.pointer (some ⟨g,0,none⟩)])(hfb:Blk w fb 144 #[.int .i64 x.op,.int .i64 x.n,.string x.text,.int .i64 x.num,.string x.path.seg,.int .i64 x.path.occ,.int .i64 x.path.fld,.int .i64 x.path.rep,.int .i64 x.path.comp,.int .i64 x.path.sub])(hgb:Blk w g 77 #[.int .u8 (p.d.f.toNat:Int),.int .u8 (p.d.c.toNat:Int),.int .u8 (p.d.r.toNat:Int),.int .u8 (p.d.e.toNat:Int),.int .u8 (p.d.s.toNat:Int),p.v,p.tv,.string p.now,.int .i64 (F:Nat),.int .i64 (u:Nat),p.rv,.bool p.stop,p.sv])(hp:PlIn w g Mu S cx st p bs)(hx:x.ok64)(hA:Args w ab ga n c a)(hk:2<=a.length)(hT:M.hasT (tnames cx.tables) x.text=true):
 Calls Tryz.prog 170 #[.pointer (some ⟨pb,0,none⟩),.pointer (some ⟨fb,0,none⟩),.pointer (some ⟨ab,0,none⟩)] w fun e w'=>e=valE (.ok (M.vTruth (M.look (M.argAt a 1).text (M.tableOf cx.tables x.text).entries).isSome))/\Below w.heap.size w w':=by
 obtain⟨v0,h0,e0⟩:=arg_at (a:=a) (i:=0) (by omega);have O0:=q_ (hA.ok v0 (List.mem_of_getElem? h0));have C0:=q_ (fun(W:World) (h:Below w.heap.size w W)=>(hA.below h).cell 0 v0 h0);obtain⟨v1,h1,e1⟩:=arg_at (a:=a) (i:=1) (by omega);have O1:=q_ (hA.ok v1 (List.mem_of_getElem? h1));have C1:=q_ (fun(W:World) (h:Below w.heap.size w W)=>(hA.below h).cell 1 v1 h1);have hlen:=hA.len;have g0:(0<n)=True:=eq_true (by omega);have gi0:((0:Int)<(n:Int))=True:=eq_true (by omega);have gi1:((1:Int)<(n:Int))=True:=eq_true (by omega);have HE:=q_ (show(.ok (M.vTruth (M.look (M.argAt a 1).text (M.tableOf cx.tables x.text).entries).isSome):Except Int M.Val)= .ok (M.vTruth (M.look v1.text (M.tableOf cx.tables x.text).entries).isSome) by rw[e1]);have HA:=q_ hA;have K1:=q_ (Blk.new w 37 #[.int .i64 0,.string ⟨#[]⟩,.int .i64 0,.bool false]);have B1:=q_ ((Below.refl _ w).alloc (n_) (.cells #[.int .i64 0,.string ⟨#[]⟩,.int .i64 0,.bool false] 37));have PB:=q_ hpb;have FB:=q_ hfb;obtain⟨A,nn,hok,hl,hcall⟩:=table_known g Mu S cx st p bs F u x.text w hT hgb hp;have HS:=q_ (fun b (h:S b)=>(hp.far b h).1);have HOK:=q_ hok;have HL:=q_ hl
 have HC:=q_ hcall;clear hok hl hcall hT;clear hpb hfb hgb hp hA h0 e0 h1 e1;go_enter Tryz.func170,Tryz.ntmps170;go_wp2_with fail;generalize w.alloc (.cells #[.int .i64 0,.string ⟨#[]⟩,.int .i64 0,.bool false] 37)=w1 at K1 B1⊢;refine wp_region_genP (KP:=fun _ _=>False) 10 [] (NewI w1) (by kernel_rfl) (by kernel_rfl) (NewI.start w1) (fun ch a2 w5 hd hk=>hk.elim) ?_
 iterate 10
  apply wpGenP_pure rfl
  ·intro L vs wx hI hR hL K hK
   first
   |have c0:=fun i=>((PB.o.below B1.o PB.o.lt).below hI (Nat.lt_of_lt_of_le PB.o.lt B1.o.size)).cell i
    go_simp;exact hK _ hI
   |have c0:=fun i=>((FB.o.below B1.o FB.o.lt).below hI (Nat.lt_of_lt_of_le FB.o.lt B1.o.size)).cell i
    go_simp;exact hK _ hI
   |have c0:=(HA.o.below (B1.o.trans (hI.mono B1.o.size))).blk.cell
    go_simp;exact hK _ hI
   |have c0:=(C1.o _ (B1.o.trans (hI.mono B1.o.size))).1
    go_simp;exact hK _ hI
   |go_simp
    exact((HC.o _ (B1.o.trans (hI.mono B1.o.size)))).mono fun e w' ⟨h1,h2⟩=>⟨_,h1,hK _ (hI.trans (h2.mono hI.size))⟩
   |go_simp
    exact(textHas_any (M.tableOf cx.tables x.text).name v1.text A nn (M.tableOf cx.tables x.text).entries S wx (fun b h=>Nat.lt_of_lt_of_le (HS.o b h) (B1.o.trans (hI.mono B1.o.size)).size) HOK.o (HL.o.below (B1.o.trans (hI.mono B1.o.size)) HS.o) O1.o.text).mono fun e w' ⟨h1,h2⟩=>⟨_,h1,hK _ (hI.trans (h2.mono hI.size))⟩
   |go_simp
    exact(ofTruth_any _ _).mono fun e w' ⟨h1,h2⟩=>⟨_,h1,hK _ (hI.trans (h2.mono hI.size))⟩
  intro KK hKK;go_simp;refine hKK _ ?_;clear hKK KK
 refine wpGenP_nil ?_;intro vs w2 hI;have B2:=q_ (B1.o.trans (hI.mono B1.o.size));have K2:=q_ (K1.o.below hI K1.o.lt);clear hI;intro KK hKK;have hKN:=fun a w h=>hKK .normal a w h;simp only[List.drop_succ_cons];refine wpList_store_V rfl (.tmp 3) (.tmp 13) rfl w.heap.size (M.vTruth (M.look v1.text (M.tableOf cx.tables x.text).entries).isSome) (by rfl) (by rfl) (K2.o) rfl ?_;intro w9 k9 g9;have K9:=q_ k9;have B9:=q_ (below_gr B2.o g9 (n_));clear k9 g9;go_wp2_with fail
 (try simp only[Exit.inBlock,Exit.then]);exact bodyPost_ret (val_res rfl K9.o rfl) rfl ⟨by rw[HE.o];rfl,B9.o⟩
theorem cl15_any(g pb fb:Nat)(Mu S:Nat->Prop)(cx:M.Cx)(st:M.St)(p:PV)(bs:List Nat)(F u:Nat)(x:M.Node)(w:World)(hpb:Blk w pb 71 #[.pointer (some ⟨g,0,none⟩)])(hfb:Blk w fb 144 #[.int .i64 x.op,.int .i64 x.n,.string x.text,.int .i64 x.num,.string x.path.seg,.int .i64 x.path.occ,.int .i64 x.path.fld,.int .i64 x.path.rep,.int .i64 x.path.comp,.int .i64 x.path.sub])(hgb:Blk w g 77 #[.int .u8 (p.d.f.toNat:Int),.int .u8 (p.d.c.toNat:Int),.int .u8 (p.d.r.toNat:Int),.int .u8 (p.d.e.toNat:Int),.int .u8 (p.d.s.toNat:Int),p.v,p.tv,.string p.now,.int .i64 (F:Nat),.int .i64 (u:Nat),p.rv,.bool p.stop,p.sv])(hp:PlIn w g Mu S cx st p bs)(hx:x.ok64):
 Calls Tryz.prog 172 #[.pointer (some ⟨pb,0,none⟩)] w fun e w'=>e=valE (.ok (M.vText cx.now))/\Below w.heap.size w w':=by
 have HE:=q_ (show(.ok (M.vText cx.now):Except Int M.Val)= .ok (M.vText cx.now) by rfl);have K1:=q_ (Blk.new w 37 #[.int .i64 0,.string ⟨#[]⟩,.int .i64 0,.bool false]);have B1:=q_ ((Below.refl _ w).alloc (n_) (.cells #[.int .i64 0,.string ⟨#[]⟩,.int .i64 0,.bool false] 37));have PB:=q_ hpb;have FB:=q_ hfb;have hnow:=hp.now;rw[hnow] at hgb;have z:=(hgb.alloc (.cells #[.int .i64 0,.string ⟨#[]⟩,.int .i64 0,.bool false] 37)).cell;have z2:=(PB.o.alloc (.cells #[.int .i64 0,.string ⟨#[]⟩,.int .i64 0,.bool false] 37)).cell;clear hpb hfb hgb hp;go_enter Tryz.func172,Tryz.ntmps172;go_wp2_with fail;refine(ofText_any _ _).mono ?_
 rintro e w2 ⟨rfl,hb⟩;have B2:=q_ (B1.o.trans (hb.mono B1.o.size));have K2:=q_ (K1.o.below hb K1.o.lt);clear hb;go_wp2_with (refine wpList_store_V rfl (.tmp 1) (.tmp 6) rfl w.heap.size (M.vText cx.now) (by rfl) (by rfl) (K2.o) rfl ?_;intro w9 k9 g9;have K9:=q_ k9;have B9:=q_ (below_gr B2.o g9 (n_));clear k9 g9)
 (try simp only[Exit.inBlock,Exit.then]);exact bodyPost_ret (val_res rfl K9.o rfl) rfl ⟨rfl,B9.o⟩
end Go.Proofs.YtnocnbklhikmnaaGreatDoor
