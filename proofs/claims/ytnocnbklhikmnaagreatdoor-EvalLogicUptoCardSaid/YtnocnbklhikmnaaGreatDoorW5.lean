/- Part 5 of the proof. -/
import Derived.Test.YtnocnbklhikmnaaGreatDoorW2
import Derived.Laws.OwnMore
import Derived.Maps.AppendAt
import Derived.Deep.AppendLies
import Derived.OwnWalk
set_option linter.unusedVariables false
set_option maxRecDepth 1000000
set_option maxHeartbeats 16000000
namespace Go.Proofs.YtnocnbklhikmnaaGreatDoor
section
open Go.RowKit
theorem block_of_add(a:Addr)(n:Nat):(a.add n).block=a.block:=by unfold Addr.add;split<;>rfl
theorem add_of_add(a:Addr)(i j:Nat):(a.add i).add j=a.add (i+j):=by
 unfold Addr.add;by_cases hi:i=0<;>by_cases hj:j=0<;>simp[hi,hj,Nat.add_assoc]
theorem cell_add{w:World}{ad:Addr}{i:Nat}(j:Nat)(hj:0<j):w.cell? (ad.add (i+j))=w.cell? ⟨(ad.add i).block,(ad.add i).off+j,none⟩:=by
 rw[<-add_of_add]
 conv=>lhs;rw[show(ad.add i).add j={(ad.add i) with off:=(ad.add i).off+j,spot:=none} from by rw[Addr.add,if_neg (by omega)]]
structure Enc(α:Type) where
 n:Nat
 pos:0<n
 R:World->(Nat->Prop)->List Value->α->Prop
 len:∀{w S cs x},R w S cs x->cs.length=n
 keep:∀{w w' S S' cs x},R w S cs x->(∀b,S b->S' b)->(∀p:Addr,S p.block->w'.cell? p=w.cell? p)->R w' S' cs x
 one:∀{w S cs x},R w S cs x->∀u∈cs,u.oneCell'=true
def Enc.flat{α:Type}(f:α->List Value)(n:Nat)(pos:0<n)(ok:α->Prop)(hl:∀x,(f x).length=n)(ho:∀x,∀u∈f x,u.oneCell'=true):Enc α where
 n:=n
 pos:=pos
 R:=fun _ _ cs x=>cs=f x/\ok x
 len:=by rintro _ _ _ x ⟨rfl,_⟩;exact hl x
 keep:=fun h _ _=>h
 one:=by rintro _ _ _ x ⟨rfl,_⟩;exact ho x
def LAt{α:Type}(E:Enc α)(w:World)(S:Nat->Prop)(A:Option Addr)(m:Nat)(xs:List α):Prop:=
 xs.length=m/\(0<m->∃ad,A=some ad/\S ad.block/\∀j x,xs[j]? =some x->∃cs,E.R w S cs x/\∀i u,cs[i]? =some u->w.cell? (ad.add (j*E.n+i))=some u)
def SOk(A:Option Addr)(m c:Nat):Prop:=(A=none->m=0/\c=0)/\m<=c/\m<=1048576/\c<=maxLen
def Enc.list{α:Type}(E:Enc α):Enc (List α) where
 n:=1
 pos:=Nat.one_pos
 R:=fun w S cs xs=>∃A m c,cs=[.slice A m c]/\SOk A m c/\LAt E w S A m xs
 len:=by rintro _ _ _ _ ⟨A,m,c,rfl,_⟩;rfl
 keep:=by
  rintro w w' S S' _ xs ⟨A,m,c,rfl,hok,hl,h⟩ hS hc;refine⟨A,m,c,rfl,hok,hl,fun hm=> ?_⟩;obtain⟨ad,rfl,hb,he⟩:=h hm;refine⟨ad,rfl,hS _ hb,fun j x hx=> ?_⟩;obtain⟨cs,hr,hi⟩:=he j x hx;exact⟨cs,E.keep hr hS hc,fun i u hu=>(hc _ (by rw[block_of_add];exact hb)).trans (hi i u hu)⟩
 one:=by
  rintro _ _ _ _ ⟨A,m,c,rfl,_⟩ u hu;simp at hu;subst hu;rfl
def Enc.pair{α β γ:Type}(E:Enc α)(F:Enc β)(f:γ->α)(g:γ->β):Enc γ where
 n:=E.n+F.n
 pos:=by have:=E.pos;omega
 R:=fun w S cs x=>∃c1 c2,cs=c1++c2/\E.R w S c1 (f x)/\F.R w S c2 (g x)
 len:=by
  rintro _ _ _ _ ⟨c1,c2,rfl,h1,h2⟩;rw[List.length_append,E.len h1,F.len h2]
 keep:=by
  rintro _ _ _ _ _ _ ⟨c1,c2,rfl,h1,h2⟩ hS hc;exact⟨c1,c2,rfl,E.keep h1 hS hc,F.keep h2 hS hc⟩
 one:=by
  rintro _ _ _ _ ⟨c1,c2,rfl,h1,h2⟩ u hu;rcases List.mem_append.1 hu with h|h
  ·exact E.one h1 u h
  ·exact F.one h2 u h
def New(w w':World):Nat->Prop:=fun b=>w.heap.size<=b/\b<w'.heap.size
section
variable {α:Type} {E:Enc α} {w w' w'':World} {S S':Nat->Prop} {A:Option Addr} {m c:Nat} {xs:List α} {cs:List Value} {x:α} {v:Value}
theorem Enc.below(h:E.R w S cs x)(hb:Below w.heap.size w w')(hS:∀b,S b->b<w.heap.size):E.R w' S cs x:=
 E.keep h (fun _ h=>h) (fun p hp=>hb.cell (hS _ hp))
theorem Enc.wide(h:E.R w S cs x)(hS:∀b,S b->S' b):E.R w S' cs x:=E.keep h hS (fun _ _=>rfl)
theorem LAt.len(h:LAt E w S A m xs):xs.length=m:=h.1
theorem LAt.keep(h:LAt E w S A m xs)(hS:∀b,S b->S' b)(hc:∀p:Addr,S p.block->w'.cell? p=w.cell? p):LAt E w' S' A m xs:=by
 refine⟨h.1,fun hm=> ?_⟩;obtain⟨ad,rfl,hb,he⟩:=h.2 hm;refine⟨ad,rfl,hS _ hb,fun j x hx=> ?_⟩;obtain⟨cs,hr,hi⟩:=he j x hx;exact⟨cs,E.keep hr hS hc,fun i u hu=>(hc _ (by rw[block_of_add];exact hb)).trans (hi i u hu)⟩
theorem LAt.below(h:LAt E w S A m xs)(hb:Below w.heap.size w w')(hS:∀b,S b->b<w.heap.size):LAt E w' S A m xs:=
 h.keep (fun _ h=>h) (fun p hp=>hb.cell (hS _ hp))
theorem LAt.below_{B:Nat}(h:LAt E w S A m xs)(hb:Below B w w')(hS:∀b,S b->b<B):LAt E w' S A m xs:=
 h.keep (fun _ h=>h) (fun p hp=>hb.cell (hS _ hp))
theorem LAt.wide(h:LAt E w S A m xs)(hS:∀b,S b->S' b):LAt E w S' A m xs:=h.keep hS (fun _ _=>rfl)
theorem LAt.in_{k:Nat}(h:LAt E w S A m xs)(hk:k<m):∃ad x cs,A=some ad/\S ad.block/\xs[k]? =some x/\E.R w S cs x/\∀i u,cs[i]? =some u->w.cell? (ad.add (k*E.n+i))=some u:=by
 obtain⟨hl,h⟩:=h;obtain⟨ad,rfl,hb,he⟩:=h (by omega);have hx:xs[k]? =some (xs[k]'(by omega)):=List.getElem?_eq_getElem (by omega);obtain⟨cs,hr,hi⟩:=he k _ hx;exact⟨ad,_,cs,rfl,hb,hx,hr,hi⟩
theorem LAt.nil:LAt E w S A 0 []:=⟨rfl,fun h=>absurd h (by omega)⟩
theorem SOk.none:SOk none 0 0:=⟨fun _=>⟨rfl,rfl⟩,n_,by omega,by unfold maxLen;omega⟩
theorem Enc.list_nil:E.list.R w S [.slice none 0 0] []:=⟨none,0,0,rfl,SOk.none,LAt.nil⟩
theorem SOk.le(h:SOk A m c):m<=1048576:=h.2.2.1
theorem Enc.list_mk(h:LAt E w S A m xs)(hok:SOk A m c):E.list.R w S [.slice A m c] xs:=⟨A,m,c,rfl,hok,h⟩
theorem Enc.list_inv(h:E.list.R w S [v] xs):∃A c,v= .slice A xs.length c/\SOk A xs.length c/\LAt E w S A xs.length xs:=by
 obtain⟨A,m,c,e,hok,hl⟩:=h;have hm:=hl.1;subst hm;simp at e;exact⟨A,c,e,hok,hl⟩
end
structure OwnE{α:Type}(E:Enc α)(T:TypeId)(w:World)(B:Nat)(S:Nat->Prop)(v:Value)(xs:List α):Prop where
 row:∃cs,w.ownsRow B T E.n v xs.length cs/\∀j x,xs[j]? =some x->∃es,E.R w S es x/\∀i u,es[i]? =some u->cs[j*E.n+i]? =some u
 apart:∀g,v.ownBlock=some g->¬S g
 there:∀b,S b->b<w.heap.size
section
variable {α:Type} {E:Enc α} {T:TypeId} {w w' w'':World} {S S':Nat->Prop} {A:Option Addr} {B m c:Nat} {xs:List α} {cs:List Value} {x:α} {v:Value}
theorem OwnE.nil(hS:∀b,S b->b<w.heap.size):OwnE E T w B S (.slice none 0 0) []:=
 ⟨⟨[],⟨by simp,.inl ⟨rfl,rfl⟩⟩,fun j x h=>by simp at h⟩,fun g h=>by simp[Value.ownBlock] at h,hS⟩
theorem OwnE.own_lt(h:OwnE E T w B S v xs){g:Nat}(hg:v.ownBlock=some g):B<=g/\g<w.heap.size:=by
 obtain⟨cs,ho,_⟩:=h.row;have:=World.ownsRow.lt ho g hg;exact this
theorem ownsRow_blk{n size:Nat}(h:w.ownsRow B T size v n cs)(hb:∀g,v.ownBlock=some g->w'.heap[g]? =w.heap[g]?):w'.ownsRow B T size v n cs:=by
 refine⟨h.1,?_⟩;rcases h.2 with h2|⟨g,cap,cur,rfl,hB,hh,r⟩
 ·exact .inl h2
 ·exact .inr ⟨g,cap,cur,rfl,hB,(hb g rfl).trans hh,r⟩
theorem OwnE.stay(h:OwnE E T w B S v xs)(hs:w.heap.size<=w'.heap.size)(hb:∀b,b<w.heap.size->(S b\/v.ownBlock=some b)->w'.heap[b]? =w.heap[b]?):OwnE E T w' B S v xs:=by
 obtain⟨cs,ho,he⟩:=h.row;refine⟨⟨cs,ownsRow_blk ho (fun g hg=>hb g (World.ownsRow.lt ho g hg).2 (.inr hg)),fun j x hx=> ?_⟩,h.apart,fun b hb'=>Nat.lt_of_lt_of_le (h.there b hb') hs⟩;obtain⟨es,hr,hi⟩:=he j x hx;exact⟨es,E.keep hr (fun _ h=>h) (fun p hp=>World.cell?_of_block (hb _ (h.there _ hp) (.inl hp))),hi⟩
theorem OwnE.below(h:OwnE E T w B S v xs)(hb:Below w.heap.size w w'):OwnE E T w' B S v xs:=
 h.stay hb.size (fun b hb' _=>hb.block b hb')
theorem OwnE.alloc(h:OwnE E T w B S v xs)(o:Obj):OwnE E T (w.alloc o) B S v xs:=h.below ((Below.refl _ _).alloc (n_) o)
theorem OwnE.wide(h:OwnE E T w B S v xs)(hS:∀b,S b->S' b)(ha:∀g,v.ownBlock=some g->¬S' g)(ht:∀b,S' b->b<w.heap.size):OwnE E T w B S' v xs:=by
 obtain⟨cs,ho,he⟩:=h.row;refine⟨⟨cs,ho,fun j x hx=> ?_⟩,ha,ht⟩;obtain⟨es,hr,hi⟩:=he j x hx;exact⟨es,Enc.wide hr hS,hi⟩
theorem OwnE.len_le(h:OwnE E T w B S (.slice A m c) xs):xs.length=m:=by
 obtain⟨cs,ho,_⟩:=h.row;rcases ho.2 with⟨h1,h2⟩|⟨g,cap,cur,hv,_⟩
 ·injection h1 with _ e _
  omega
 ·injection hv with _ e _
  omega
theorem OwnE.reads(h:OwnE E T w B S v xs)(hS:∀b,S b->S' b)(hv:∀g,v.ownBlock=some g->S' g)(hm:xs.length<=1048576):E.list.R w S' [v] xs:=by
 obtain⟨cs,ho,he⟩:=h.row;rcases ho.2 with⟨rfl,h2⟩|⟨g,cap,cur,rfl,hB,hh,hnc,hcm,hcs,htake⟩
 ·rw[List.eq_nil_of_length_eq_zero h2]
  exact Enc.list_nil
 ·refine⟨_,_,_,rfl,⟨(fun h=>by cases h),hnc,hm,hcm⟩,rfl,fun _=>⟨_,rfl,hv g rfl,fun j x hx=> ?_⟩⟩
  obtain⟨es,hr,hi⟩:=he j x hx;refine⟨es,Enc.wide hr hS,fun i u hu=> ?_⟩;exact World.ownsRow.cells ho (g:=g) rfl _ _ (hi i u hu)
theorem wpList_append_E{P:Program}{ops:Array Oper}{rest:List Oper}{o:Oper}{a:Act}{Q:Exit->Act->World->Prop}(hgd:o.guard=none)(s x:Operand)(t:TypeId)(ho:o.op= .call {callee:= .builtin .append,args:=#[s,x],argTypes:=#[t,t]})(i:TypeInfo)(z:Value)(bytes:Nat)(ht:P.underlying t=some (.slice T))(hi:P.info? T=some i)(hz:i.zero=some z)(hsize:i.size=E.n)(hby:i.bytes=bytes)(hzs:z.cells.size=E.n)(hs:a.eval s=v)(hown:OwnE E T w B S v xs)(ad:Addr)(m c:Nat)(ys:List α)(hx:a.eval x= .slice (some ad) m c)(hl:ys.length=m)(hnews:∀j y,ys[j]? =some y->∃es,E.R w S es y/\∀i u,es[i]? =some u->w.cell? (ad.add (j*E.n+i))=some u)(h63:xs.length+m<=1099511627776)(hbytes:bytes<=128)(hbase:B<=w.heap.size)(h:∀v' w',OwnE E T w' B S v' (xs++ys)->Below B w w'->w.grownBy w' v.ownBlock->(v'.ownBlock=v.ownBlock\/v'.ownBlock=some w.heap.size)->wpList P ops Q rest (a.put o.dst v') w'):wpList P ops Q (o::rest) a w:=by
 obtain⟨cs,hr,he⟩:=hown.row
 have hnew:∃ns:List Value,ns.length=m*E.n/\(∀u∈ns,u.oneCell'=true)/\(∀j u,ns[j]? =some u->w.cell? (ad.add j)=some u)/\∀j y,ys[j]? =some y->∃es,E.R w S es y/\∀i u,es[i]? =some u->ns[j*E.n+i]? =some u:=by
  have key:∀k,k<=m->∃ns:List Value,ns.length=k*E.n/\(∀u∈ns,u.oneCell'=true)/\(∀j u,ns[j]? =some u->w.cell? (ad.add j)=some u)/\∀j y,j<k->ys[j]? =some y->∃es,E.R w S es y/\∀i u,es[i]? =some u->ns[j*E.n+i]? =some u:=by
   intro k
   induction k with
   |zero=>exact fun _=>⟨[],by simp,by simp,by simp,fun j y hj=>by omega⟩
   |succ k ih=>
    intro hk;obtain⟨ns,h1,h2,h3,h4⟩:=ih (by omega);have hy:ys[k]? =some (ys[k]'(by omega)):=List.getElem?_eq_getElem (by omega);obtain⟨es,hre,hce⟩:=hnews k _ hy;have hel:=E.len hre;refine⟨ns++es,by rw[List.length_append,h1,hel,Nat.add_mul];omega,fun u hu=> ?_,fun j u hu=> ?_,fun j y hj hyj=> ?_⟩
    ·rcases List.mem_append.1 hu with h|h
     ·exact h2 u h
     ·exact E.one hre u h
    ·rcases Nat.lt_or_ge j ns.length with hj|hj
     ·rw[List.getElem?_append_left hj] at hu
      exact h3 j u hu
     ·rw[List.getElem?_append_right hj] at hu
      have:=hce _ u hu;rw[h1] at hj this
      rwa [show k*E.n+(j-k*E.n)=j from by omega] at this
    ·rcases Nat.lt_or_ge j k with hj'|hj'
     ·obtain⟨es',hr',hc'⟩:=h4 j y hj' hyj
      refine⟨es',hr',fun i u hu=> ?_⟩
      have hi':i<E.n:=by
       have:=(List.getElem?_eq_some_iff.1 hu).1
       rwa [E.len hr'] at this
      have:j*E.n+i<ns.length:=by
       rw[h1];have h5:(j+1)*E.n<=k*E.n:=Nat.mul_le_mul_right _ hj';rw[Nat.add_mul] at h5;omega
      rw[List.getElem?_append_left this];exact hc' i u hu
     ·have:j=k:=by omega
      subst this;rw[hy] at hyj;cases hyj;refine⟨es,hre,fun i u hu=> ?_⟩;rw[List.getElem?_append_right (by rw[h1];omega),h1,show j*E.n+i-j*E.n=i from by omega];exact hu
  obtain⟨ns,h1,h2,h3,h4⟩:=key m (n_);exact⟨ns,h1,h2,h3,fun j y hy=>h4 j y (by have:=(List.getElem?_eq_some_iff.1 hy).1;omega) hy⟩
 obtain⟨ns,hn1,hn2,hn3,hn4⟩:=hnew;have hcl:=hr.1;refine wpList_append_own_at w hgd s x t ho B T i z E.n bytes ht hi hz hsize hby hzs E.pos v xs.length cs hs hr ad m c ns hx hn1 hn3 hn2 (by unfold maxLen;omega) ?_ hbase ?_
 ·have h1:(xs.length+m)*bytes<=1099511627776*128:=Nat.mul_le_mul h63 hbytes
  omega
 intro v' w' hown' hg _ hwhere;have hblk:∀b,S b->w'.heap[b]? =w.heap[b]? :=fun b hb=>hg.block b (hown.there b hb) (fun e=>hown.apart b e.symm hb);refine h v' w' ⟨⟨cs++ns,?_,fun j y hy=> ?_⟩,fun g hg'=> ?_,fun b hb=>Nat.lt_of_lt_of_le (hown.there b hb) hg.size⟩ ((Below.refl _ _).grown hg hbase (fun k hk=>(World.ownsRow.lt hr k hk).1)) hg hwhere
 ·rw[List.length_append,hl]
  exact hown'
 ·rcases Nat.lt_or_ge j xs.length with hj|hj
  ·rw[List.getElem?_append_left hj] at hy
   obtain⟨es,hre,hce⟩:=he j y hy;refine⟨es,E.keep hre (fun _ h=>h) (fun p hp=>World.cell?_of_block (hblk _ hp)),fun i u hu=> ?_⟩;have:=hce i u hu;rw[List.getElem?_append_left (List.getElem?_eq_some_iff.1 this).1];exact this
  ·rw[List.getElem?_append_right hj] at hy
   obtain⟨es,hre,hce⟩:=hn4 _ y hy;refine⟨es,E.keep hre (fun _ h=>h) (fun p hp=>World.cell?_of_block (hblk _ hp)),fun i u hu=> ?_⟩;have:=hce i u hu;rw[List.getElem?_append_right (by rw[hcl];have:xs.length*E.n<=j*E.n:=Nat.mul_le_mul_right _ hj;omega),hcl,show j*E.n+i-xs.length*E.n=(j-xs.length)*E.n+i from by rw[Nat.sub_mul];have:xs.length*E.n<=j*E.n:=Nat.mul_le_mul_right _ hj;omega];exact this
 ·rcases hwhere with e|e
  ·exact hown.apart g (e▸hg')
  ·rw[e] at hg'
   cases hg';intro hb;exact absurd (hown.there _ hb) (by omega)
theorem news_one{cs:List Value}{T':TypeId}(hr:E.R w S cs x)(ht:∀b,S b->b<w.heap.size):∀j y,[x][j]? =some y->∃es,E.R (w.alloc (.cells cs.toArray T')) S es y/\∀i u,es[i]? =some u->(w.alloc (.cells cs.toArray T')).cell? ((⟨w.heap.size,0,none⟩:Addr).add (j*E.n+i))=some u:=by
 intro j y hy
 have hj:j=0:=by
  have:=(List.getElem?_eq_some_iff.1 hy).1;simp at this;exact this
 subst hj;simp at hy;subst hy;refine⟨cs,E.keep hr (fun _ h=>h) (fun p hp=>World.cell?_alloc_lt w _ p (ht _ hp)),fun i u hu=> ?_⟩;rw[Addr.add_lit,Nat.zero_mul,Nat.zero_add,Nat.zero_add,(Blk.new w T' cs.toArray).cell];simpa using hu
end
def lenOf:Value->Nat
 | .slice _ n _=>n
 |_=>0
def Enters(P:Program)(f:FuncId):Prop:=∀args w,(callFunc f args).run P w= .ok (.enter f args) w
def GivesE{β:Type}(F:Enc β)(w:World)(y:β)(e:Ending)(w':World):Prop:=∃v,e= .returned v/\F.R w' (New w w') [v] y/\Below w.heap.size w w'
section
variable {α:Type} {E:Enc α} {T:TypeId} {w w' w'':World} {S S':Nat->Prop} {A:Option Addr} {B m c:Nat} {xs:List α} {cs:List Value} {x:α} {v:Value}
theorem one_cell{l:List Value}(h:l.length=1):∃u,l=[u]:=by
 match l,h with
 |[u],_=>exact⟨u,rfl⟩
theorem LAt.in1{k:Nat}(hE:E.n=1)(h:LAt E w S A m xs)(hk:k<m):∃ad x u,A=some ad/\S ad.block/\xs[k]? =some x/\E.R w S [u] x/\w.cell? (ad.add k)=some u:=by
 obtain⟨ad,x,cs,rfl,hb,hx,hr,hc⟩:=h.in_ hk;obtain⟨u,rfl⟩:=one_cell ((E.len hr).trans hE);refine⟨ad,x,u,rfl,hb,hx,hr,?_⟩;have:=hc 0 u rfl
 rwa [hE,Nat.mul_one,Nat.add_zero] at this
theorem OwnE.in1{k:Nat}(hE:E.n=1)(h:OwnE E T w B S v xs)(hk:k<xs.length):∃g cap x u,v= .slice (some ⟨g,0,none⟩) xs.length cap/\xs[k]? =some x/\E.R w S [u] x/\w.cell? ⟨g,k,none⟩=some u/\xs.length<=cap/\cap<=maxLen:=by
 obtain⟨cs,ho,he⟩:=h.row;have hx:xs[k]? =some xs[k]:=List.getElem?_eq_getElem hk;obtain⟨es,hr,hi⟩:=he k _ hx;obtain⟨u,rfl⟩:=one_cell ((E.len hr).trans hE);have hu:=hi 0 u rfl;rw[hE,Nat.mul_one,Nat.add_zero] at hu;have hcl:=ho;rcases ho.2 with⟨rfl,h2⟩|⟨g,cap,cur,rfl,hB,hh,hnc,hcm,hcs,htake⟩
 ·omega
 ·refine⟨g,cap,_,u,rfl,hx,hr,?_,hnc,hcm⟩
  have:=World.ownsRow.cells hcl (g:=g) rfl _ _ hu
  rwa [Addr.add_lit,Nat.zero_add] at this
theorem OwnE.form(h:OwnE E T w B S v xs):(v= .slice none 0 0/\xs=[])\/∃g cap,v= .slice (some ⟨g,0,none⟩) xs.length cap/\B<=g/\g<w.heap.size/\xs.length<=cap/\cap<=maxLen:=by
 obtain⟨cs,ho,he⟩:=h.row;rcases ho.2 with⟨rfl,h2⟩|⟨g,cap,cur,rfl,hB,hh,hnc,hcm,hcs,htake⟩
 ·exact .inl ⟨rfl,List.eq_nil_of_length_eq_zero h2⟩
 ·refine .inr ⟨g,cap,rfl,hB,?_,hnc,hcm⟩
  rcases Nat.lt_or_ge g w.heap.size with h|h
  ·exact h
  ·rw[Array.getElem?_eq_none h] at hh;cases hh
theorem OwnE.take(h:OwnE E T w B S (.slice A m c) xs)(n:Nat)(hn:n<=m):OwnE E T w B S (.slice A n c) (xs.take n):=by
 have hlen:=h.len_le;obtain⟨cs,ho,he⟩:=h.row;have hl:(xs.take n).length=n:=by rw[List.length_take];omega
 refine⟨⟨cs.take (n*E.n),⟨by rw[List.length_take,ho.1,hl];exact Nat.min_eq_left (Nat.mul_le_mul_right _ (by omega)),?_⟩,fun j y hy=> ?_⟩,fun g hg=>h.apart g ?_,h.there⟩
 ·rcases ho.2 with⟨h1,h2⟩|⟨g,cap,cur,hv,hB,hh,hnc,hcm,hcs,htake⟩
  ·injection h1 with h3 h4 h5
   subst h3 h4 h5;exact .inl ⟨by rw[show n=0 by omega],by rw[hl];omega⟩
  ·injection hv with h3 h4 h5
   subst h3 h5;refine .inr ⟨g,c,cur,by rw[hl],hB,hh,by rw[hl];omega,hcm,hcs,?_⟩;rw[hl,<-htake,List.take_take,Nat.min_eq_left (Nat.mul_le_mul_right _ (by omega))]
 ·have hj:j<n:=by have:=(List.getElem?_eq_some_iff.1 hy).1;omega
  rw[List.getElem?_take_of_lt hj] at hy;obtain⟨es,hr,hi⟩:=he j y hy;refine⟨es,hr,fun i u hu=> ?_⟩
  have hi':i<E.n:=by
   have:=(List.getElem?_eq_some_iff.1 hu).1
   rwa [E.len hr] at this
  rw[List.getElem?_take_of_lt]
  ·exact hi i u hu
  ·have h5:(j+1)*E.n<=n*E.n:=Nat.mul_le_mul_right _ hj
   rw[Nat.add_mul] at h5;omega
 ·cases A with
  |none=>simp[Value.ownBlock] at hg
  |some a=>simpa[Value.ownBlock] using hg
end
end
section
open Go Go.RowKit
theorem bt'{w a b:World}(h:Below w.heap.size w a)(k:Stays a b):Below w.heap.size w b:=h.trans (k.mono h.size)
theorem Stays.grown{a b:World}(h:Stays a b)(row:Option Nat):a.grownBy b row:=⟨h.os,h.tape,h.output,h.size,fun k hk _=>h.block k hk⟩
theorem grown_set(w:World)(g o:Nat)(u:Value):w.grownBy (w.setCell ⟨g,o,none⟩ u) (some g):=⟨rfl,rfl,rfl,by simp[World.setCell],fun k _ hne=>Below.heap_setCell _ _ _ _ (fun e=>hne (by rw[e]))⟩
theorem Blk.grownAt{w w':World}{g g':Nat}{t:TypeId}{cs:Array Value}(h:Blk w g' t cs)(hg:w.grownBy w' (some g))(hne:g'≠g):Blk w' g' t cs:=(hg.block g' h.lt (fun e=>hne (by injection e))).trans h
theorem below_grown{w w':World}{B g:Nat}(hg:w.grownBy w' (some g))(hB:B<=w.heap.size)(h:B<=g):Below B w w':=(Below.refl _ _).grown hg hB (fun k hk=>by cases hk;exact h)
theorem below_gr{w w1 w2:World}{g:Nat}(h:Below w.heap.size w w1)(hg:w1.grownBy w2 (some g))(hge:w.heap.size<=g):Below w.heap.size w w2:=h.trans (below_grown hg h.size hge)
theorem Blk.setCells_get{t:TypeId}{b:Nat}:∀(vs:List Value) (o:Nat) (cs:Array Value) (w:World),Blk w b t cs->o+vs.length<=cs.size->
 ∃cs2,Blk (w.setCells b o vs) b t cs2/\cs2.size=cs.size/\∀i,cs2[i]? =if o<=i/\i<o+vs.length then vs[i-o]?else cs[i]?
 |[],o,cs,w,h,_=>⟨cs,h,rfl,fun i=>by simp;omega⟩
 |v::vs,o,cs,w,h,hs=>by
  simp only[List.length_cons] at hs;obtain⟨cs2,h1,h2,h3⟩:=Blk.setCells_get vs (o+1) _ _ (h.set_ o v) (by simp;omega);refine⟨cs2,h1,by rw[h2];simp,fun i=> ?_⟩;rw[h3];by_cases hi:o+1<=i/\i<o+1+vs.length
  ·rw[if_pos hi,if_pos (by simp only[List.length_cons];omega),show i-o=(i-(o+1))+1 by omega,List.getElem?_cons_succ]
  ·rw[if_neg hi]
   by_cases ho:i=o
   ·subst ho
    rw[if_pos (by simp only[List.length_cons];omega),Nat.sub_self,Array.getElem?_setIfInBounds,if_pos rfl,if_pos (by omega),List.getElem?_cons_zero]
   ·rw[if_neg (by simp only[List.length_cons];omega)]
    simp[Ne.symm ho]
theorem Blk.setAll{w:World}{t:TypeId}{b:Nat}{cs cs':Array Value}(h:Blk w b t cs)(hs:cs'.size=cs.size):Blk (w.setCells b 0 cs'.toList) b t cs':=by
 obtain⟨cs2,h1,h2,h3⟩:=Blk.setCells_get cs'.toList 0 cs w h (by simp;omega)
 have e:cs2=cs':=by
  apply Array.ext_getElem?;intro i;rw[h3];by_cases hi:i<cs'.size
  ·rw[if_pos (by simp;omega)];simp
  ·rw[if_neg (by simp;omega),Array.getElem?_eq_none (by omega),Array.getElem?_eq_none (by omega)]
 rwa [e] at h1
theorem grown_setCells(b:Nat):∀(vs:List Value) (o:Nat) (w:World),w.grownBy (w.setCells b o vs) (some b)
 |[],_,w=>(Stays.refl w).grown _
 |v::vs,o,w=>(grown_set w b o v).trans (grown_setCells b vs (o+1) _)
theorem wpList_store_blk{P:Program}{ops:Array Oper}{rest:List Oper}{op:Oper}{a:Act}{w:World}{Q:Exit->Act->World->Prop}{t:TypeId}{cs cs':Array Value}(hgd:op.guard=none)(ty:TypeId)(x y:Operand)(ho:op.op= .store ty x y)(b:Nat)(hx:a.eval x= .pointer (some ⟨b,0,none⟩))(hy:a.eval y= .agg cs')(hk:Blk w b t cs)(hs:cs'.size=cs.size)(hi:(P.info? ty).map (·.size)=some cs'.size)(h1:cs'.all (·.oneCell')=true)(h:∀w',Blk w' b t cs'->w.grownBy w' (some b)->wpList P ops Q rest (a.put op.dst undef) w'):wpList P ops Q (op::rest) a w:=
 wpList_store_mid hgd ty x y ho b 0 cs' hx hy (hk.there cs'.size (by omega)) hi h1 (h _ (hk.setAll hs) (grown_setCells b _ 0 w))
section
variable {α:Type} {E:Enc α} {T:TypeId} {w w':World} {S:Nat->Prop} {B b:Nat} {v:Value} {xs:List α} {cs:List Value} {x:α}
theorem OwnE.grownAt(h:OwnE E T w B S v xs)(hg:w.grownBy w' (some b))(hne:v.ownBlock≠some b)(hS:¬S b):OwnE E T w' B S v xs:=
 h.stay hg.size (fun k hk hc=>hg.block k hk (fun e=>by
  injection e with e;subst e;exact hc.elim hS hne))
end
section
variable {α:Type} {E:Enc α} {T:TypeId} {w w':World} {S:Nat->Prop} {B b:Nat} {v:Value} {xs:List α} {cs:List Value} {x:α}
theorem news_blk{g:Nat}{t:TypeId}{ca:Array Value}(hg:Blk w g t ca)(hr:E.R w S ca.toList x):∀j y,[x][j]? =some y->∃es,E.R w S es y/\∀i u,es[i]? =some u->w.cell? ((⟨g,0,none⟩:Addr).add (j*E.n+i))=some u:=by
 intro j y hy
 have hj:j=0:=by
  have:=(List.getElem?_eq_some_iff.1 hy).1;simp at this;exact this
 subst hj;simp at hy;subst hy;refine⟨_,hr,fun i u hu=> ?_⟩;rw[Addr.add_lit,Nat.zero_mul,Nat.zero_add,Nat.zero_add,hg.cell];simpa using hu
theorem OwnE.shape(h:OwnE E T w B S v xs):∃A c,v= .slice A xs.length c:=by
 rcases h.form with⟨rfl,rfl⟩|⟨g,cap,rfl,_⟩
 ·exact⟨_,_,rfl⟩
 ·exact⟨_,_,rfl⟩
theorem OwnE.widen{S2:Nat->Prop}(h:OwnE E T w B S v xs)(h2:∀b,S2 b->b<w.heap.size)(hn:∀g,v.ownBlock=some g->¬S2 g):OwnE E T w B (fun b=>S b\/S2 b) v xs:=
 h.wide (fun _ h=> .inl h) (fun g hg h'=>h'.elim (h.apart g hg) (hn g hg)) (fun b h'=>h'.elim (h.there b) (h2 b))
end
end
end Go.Proofs.YtnocnbklhikmnaaGreatDoor
