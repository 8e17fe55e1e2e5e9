/- Part 22 of the proof. -/
import Derived.Test.YtnocnbklhikmnaaGreatDoorW17
import Derived.Test.YtnocnbklhikmnaaGreatDoorW19
import Derived.Test.YtnocnbklhikmnaaGreatDoorW21
set_option linter.unusedVariables false
set_option maxRecDepth 1000000
set_option maxHeartbeats 16000000
namespace Go.Proofs.YtnocnbklhikmnaaGreatDoor
section
open Go Go.RowKit Go.BigFrame
theorem is_any(l:List M.Node)(cls:Int)(A:Option Addr)(c:Nat)(S:Nat->Prop)(w:World)(hS:∀b,S b->b<w.heap.size)(hok:SOk A l.length c)(hl:LAt ENode w S A l.length l):
 Calls Tryz.prog 79 #[.slice A l.length c,.int .i64 cls] w fun e w'=>e= .returned (.bool (M.isA l cls))/\Below w.heap.size w w':=by
 have hm:=hok.le;have K:=q_ (whole_any 20 l cls 0 A c S w (by omega) (by omega) hS hok hl);have HI:=q_ (show M.isA l cls=(decide (l.length<=400)&&match M.whole 20 l cls with|some []=>true|_=>false) from rfl);clear hok hl hS;generalize hml:l.length=m at*;by_cases h4:m<=400
 ·have q1:decide ((400:Int)<(m:Int))=false:=by simp;omega
  have HI2:=q_ (show M.isA l cls=match M.whole 20 l cls with|some []=>true|_=>false by rw[HI.o,decide_eq_true h4,Bool.true_and]);go_enter Tryz.func79,Tryz.ntmps79;go_wp2_with fail;refine K.o.mono ?_;rintro e w2 ⟨hb,hr⟩;have HB:=q_ hb;clear hb;generalize M.whole 20 l cls=o at*;cases o with
  |none=>
   subst hr;go_wp2;go_ret;exact⟨by rw[HI2.o];rfl,HB.o⟩
  |some r=>
   obtain⟨A2,c2,rfl,-,-⟩:=hr;cases r with
   |nil=>
    go_wp2;go_ret;exact⟨by rw[HI2.o];rfl,HB.o⟩
   |cons x r=>
    have q2:(((r.length:Int)+1)==0)=false:=by simp;omega
    simp only[List.length_cons];go_wp2;go_ret;exact⟨by rw[HI2.o];rfl,HB.o⟩
 ·have q1:decide ((400:Int)<(m:Int))=true:=by simp;omega
  have HI2:=q_ (show M.isA l cls=false by rw[HI.o,decide_eq_false h4,Bool.false_and]);go_enter Tryz.func79,Tryz.ntmps79;go_wp2;go_ret;exact⟨by rw[HI2.o];rfl,Below.refl _ _⟩
namespace M
theorem whole_tree:∀(d:Nat) (n:List Node) (cls:Int) (r:List Node),whole d n cls=some r->∃t,n=flat t++r/\wfT t/\okT d cls t=true
 |0,_,_,_,h=>by simp[whole] at h
 |d+1,[],_,_,h=>by simp[whole] at h
 |d+1,x::n,cls,r,h=>by
  simp only[whole] at h;split at h
  ·next hc=>
   obtain⟨hcl,hr,hn⟩:=hc
   have key:∀(k i:Nat) (n r:List Node),iter (fun i n=>whole d n (wanted x i)) k i n=some r->∃ks:List Tree,n=flats ks++r/\ks.length=k/\wfL ks/\∀j t,ks[j]? =some t->okT d (wanted x (i+j)) t=true:=by
    intro k
    induction k with
    |zero=>
     intro i n r hi;simp only[iter] at hi;cases hi;exact⟨[],by simp[flats],rfl,trivial,fun j t h=>by simp at h⟩
    |succ k ih=>
     intro i n r hi;simp only[iter] at hi;split at hi
     ·next n' hw=>
      obtain⟨t,ht,hwf,hok⟩:=whole_tree d n (wanted x i) n' hw;obtain⟨ks,hks,hlen,hwl,hall⟩:=ih (i+1) n' r hi;refine⟨t::ks,by rw[ht,hks];simp[flats],by simp[hlen],⟨hwf,hwl⟩,fun j t' hj=> ?_⟩;cases j with
      |zero=>simp at hj;subst hj;simpa using hok
      |succ j=>have:=hall j t' (by simpa using hj);rwa [show i+1+j=i+(j+1) by omega] at this
     ·cases hi
   obtain⟨ks,hks,hlen,hwl,hall⟩:=key _ _ _ _ h;by_cases h0:0<=x.n
   ·refine⟨.mk x ks,by simp[flat,hks],⟨by omega,hwl⟩,?_⟩
    simp only[okT,hcl,hr,decide_true,Bool.true_and,Bool.and_eq_true,decide_eq_true_eq,List.all_eq_true];refine⟨by omega,?_⟩;rintro⟨t,j⟩ hm;have:=List.mem_zipIdx hm;obtain⟨h1,h2,h3⟩:=this;have h4:=hall j t (by rw[h3];simp);simpa using h4
   ·
    have hl:leastN x.op<=x.n:=by
     unfold right at hr;simp only[Bool.and_eq_true,decide_eq_true_eq] at hr;exact hr.1.1.2
    have:0<=leastN x.op:=by
     unfold leastN
     repeat' split
     all_goals omega
    omega
  ·cases h
theorem isA_tree(n:List Node)(cls:Int)(h:isA n cls=true):∃t,n=flat t/\wfT t/\okT 20 cls t=true/\n.length<=400:=by
 unfold isA at h;rw[Bool.and_eq_true,decide_eq_true_iff] at h;obtain⟨h1,h2⟩:=h;split at h2
 ·next hw=>
  obtain⟨t,ht,hw,hk⟩:=whole_tree 20 n cls [] hw;exact⟨t,by simpa using ht,hw,hk,h1⟩
 ·cases h2
end M
end
section
open Go Go.RowKit Go.BigFrame Go.Maps Go.WideMaps
def NewI(W0:World)(L:Nat->Bool)(vs:Nat->Value)(w:World):Prop:=Below W0.heap.size W0 w
theorem NewI.start(W0:World){L:Nat->Bool}{vs:Nat->Value}:NewI W0 L vs {W0 with drawn:=W0.drawn+1}:=⟨rfl,rfl,rfl,n_,fun _ _=>rfl⟩
structure OneI(W0:World)(b:Nat)(T:TypeId)(cs:Array Value)(L:Nat->Bool)(vs:Nat->Value)(w:World):Prop where
 below:Below W0.heap.size W0 w
 blk:L b=true->∃g,vs b= .slice (some ⟨g,0,none⟩) 1 1/\W0.heap.size<=g/\Blk w g T cs
section
variable {W0 w w':World} {b:Nat} {T:TypeId} {cs:Array Value} {L:Nat->Bool} {vs:Nat->Value}
theorem OneI.start(W0:World):OneI W0 b T cs (fun _=>false) vs {W0 with drawn:=W0.drawn+1}:=⟨⟨rfl,rfl,rfl,n_,fun _ _=>rfl⟩,fun h=>by cases h⟩
theorem OneI.move(h:OneI W0 b T cs L vs w)(hb:Below w.heap.size w w'){k:Nat}{v:Value}(hk:k≠b):OneI W0 b T cs (upd L k) (updv vs k v) w':=by
 have ea:upd L k b=L b:=by simp[upd,Ne.symm hk]
 have va:updv vs k v b=vs b:=by simp[updv,Ne.symm hk]
 refine⟨h.below.trans (hb.mono h.below.size),?_⟩;rw[ea,va];intro hl;obtain⟨g,e1,e2,e3⟩:=h.blk hl;exact⟨g,e1,e2,e3.below hb e3.lt⟩
theorem OneI.pure(h:OneI W0 b T cs L vs w){k:Nat}{v:Value}(hk:k≠b):OneI W0 b T cs (upd L k) (updv vs k v) w:=h.move (Below.refl _ _) hk
theorem OneI.make(h:OneI W0 b T cs L vs w):OneI W0 b T cs (upd L b) (updv vs b (.slice (some ⟨w.heap.size,0,none⟩) 1 1)) (w.alloc (.cells cs T)):=
 ⟨h.below.alloc h.below.size _,fun _=>⟨w.heap.size,by simp[updv],h.below.size,Blk.new _ _ _⟩⟩
end
def EIntU:Enc Int:=Enc.flat (fun i=>[.int .i64 i]) 1 Nat.one_pos (fun _=>True) (fun _=>rfl) (fun _ u hu=>by simp at hu;subst hu;rfl)
structure ErrI(W0:World)(b:Nat)(L:Nat->Bool)(vs:Nat->Value)(w:World):Prop where
 below:Below W0.heap.size W0 w
 no:L b=false
theorem ErrI.start(W0:World)(b:Nat){vs:Nat->Value}:ErrI W0 b (fun _=>false) vs {W0 with drawn:=W0.drawn+1}:=⟨⟨rfl,rfl,rfl,n_,fun _ _=>rfl⟩,rfl⟩
theorem ErrI.pure{W0 w:World}{b:Nat}{L:Nat->Bool}{vs:Nat->Value}(h:ErrI W0 b L vs w){k:Nat}{v:Value}(hk:k≠b):ErrI W0 b (upd L k) (updv vs k v) w:=⟨h.below,by simp[upd,Ne.symm hk,h.no]⟩
theorem ErrI.on{W0 w w':World}{b:Nat}{L:Nat->Bool}{vs:Nat->Value}(h:ErrI W0 b L vs w)(hb:Below w.heap.size w w'){k:Nat}{v:Value}(hk:k≠b):ErrI W0 b (upd L k) (updv vs k v) w':=⟨h.below.trans (hb.mono h.below.size),by simp[upd,Ne.symm hk,h.no]⟩
theorem kindsL_ok(F:M.Tree->Except Int Int):∀(l:List M.Tree) (kl:List Int),kl.length=l.length->(∀(j:Nat) (t:M.Tree),l[j]? =some t->∃k,kl[j]? =some k/\F t= .ok k)->M.kindsL F l= .ok kl
 |[],[],_,_=>rfl
 |[],_::_,h,_=>by simp at h
 |t::l,[],h,_=>by simp at h
 |t::l,k::kl,h,ha=>by
  obtain⟨k',e,hk⟩:=ha 0 t rfl;simp at e;subst e;have:=kindsL_ok F l kl (by simpa using h) (fun j t' hj=>by simpa using ha (j+1) t' (by simpa using hj));simp[M.kindsL,hk,this]
theorem kindsL_err(F:M.Tree->Except Int Int):∀(l:List M.Tree) (j:Nat) (t:M.Tree) (e:Int),l[j]? =some t->F t= .error e->∃e',M.kindsL F l= .error e'
 |[],j,t,e,h,_=>by simp at h
 |x::l,0,t,e,h,he=>by
  simp at h;subst h;exact⟨e,by simp[M.kindsL,he]⟩
 |x::l,j+1,t,e,h,he=>by
  obtain⟨e',h'⟩:=kindsL_err F l j t e (by simpa using h) he;cases hx:F x with
  |error e2=>exact⟨e2,by simp[M.kindsL,hx]⟩
  |ok k=>exact⟨e',by simp[M.kindsL,hx,h']⟩
theorem kindsL_len(F:M.Tree->Except Int Int):∀(l:List M.Tree) (kl:List Int),M.kindsL F l= .ok kl->kl.length=l.length
 |[],kl,h=>by simp[M.kindsL] at h;subst h;rfl
 |t::l,kl,h=>by
  unfold M.kindsL at h;split at h
  ·cases h
  ·split at h
   ·cases h
   ·next hk=>cases h;simp[kindsL_len F l _ hk]
theorem okT_kid{d:Nat}{cls:Int}{x:M.Node}{ks:List M.Tree}(h:M.okT (d+1) cls (.mk x ks)=true){i:Nat}{t:M.Tree}(hi:ks[i]? =some t):M.okT d (M.wanted x i) t=true:=by
 unfold M.okT at h;simp only[Bool.and_eq_true,List.all_eq_true] at h
 have:=h.2 (t,i) (by
  rw[List.mem_iff_getElem?];exact⟨i,by simp[hi]⟩)
 simpa using this
theorem okT_top{d:Nat}{cls:Int}{x:M.Node}{ks:List M.Tree}(h:M.okT (d+1) cls (.mk x ks)=true):M.classOf x.op=cls/\M.right x=true/\x.n=(ks.length:Int):=by
 unfold M.okT at h;simp only[Bool.and_eq_true,decide_eq_true_eq] at h;exact⟨h.1.1.1,h.1.1.2,h.1.2⟩
structure ChkAt(w:World)(g mb D:Nat)(f:KKey->Option Int)(dests:List ByteArray)(tables:List M.Table)(S:Nat->Prop):Prop where
 blk:∃dA dc tA tc,Blk w g 67 #[.slice dA dests.length dc,.slice tA tables.length tc,.map (some mb),.int .i64 D]/\dests.length<=1048576/\SOk tA tables.length tc/\LAt EStr w S dA dests.length dests/\LAt ETable w S tA tables.length tables
 map:MapK w mb f
 there:∀b,S b->b<w.heap.size
 deep:D<=1000
theorem ChkAt.below{w w':World}{g mb D:Nat}{f:KKey->Option Int}{dests:List ByteArray}{tables:List M.Table}{S:Nat->Prop}(h:ChkAt w g mb D f dests tables S)(hb:Below w.heap.size w w'):ChkAt w' g mb D f dests tables S:=by
 obtain⟨dA,dc,tA,tc,h1,h2,h3,h4,h5⟩:=h.blk;exact⟨⟨dA,dc,tA,tc,h1.below hb h1.lt,h2,h3,h4.below hb h.there,h5.below hb h.there⟩,h.map.below hb h.map.lt,fun b hb'=>Nat.lt_of_lt_of_le (h.there b hb') hb.size,h.deep⟩
theorem ChkAt.wide{w:World}{g mb D:Nat}{f:KKey->Option Int}{dests:List ByteArray}{tables:List M.Table}{S S':Nat->Prop}(h:ChkAt w g mb D f dests tables S)(hS:∀b,S b->S' b)(ht:∀b,S' b->b<w.heap.size):ChkAt w g mb D f dests tables S':=by
 obtain⟨dA,dc,tA,tc,h1,h2,h3,h4,h5⟩:=h.blk;exact⟨⟨dA,dc,tA,tc,h1,h2,h3,h4.wide hS,h5.wide hS⟩,h.map,ht,h.deep⟩
def EnvRel(f:KKey->Option Int)(D:Nat)(env:List (ByteArray×Int)):Prop:=∀name,M.look name env=(findN f name (D+1)).map Prod.fst
def ExprP(w:World)(r:Except Int Int)(e:Ending)(w':World):Prop:=
 Below w.heap.size w w'/\match r with
  | .ok k=>e= .returned (.int .i64 k)
  | .error _=>∃ch,e= .panicked ch/\FaultP ch
theorem ExprP.ok{w w':World}{r:Except Int Int}{e:Ending}{k:Int}(hr:r= .ok k)(hb:Below w.heap.size w w')(he:e= .returned (.int .i64 k)):ExprP w r e w':=by subst hr;exact⟨hb,he⟩
theorem ExprP.err{w w':World}{r:Except Int Int}{e:Ending}(hr:∃x,r= .error x)(hb:Below w.heap.size w w')(he:∃ch,e= .panicked ch/\FaultP ch):ExprP w r e w':=by obtain⟨x,rfl⟩:=hr;exact⟨hb,he⟩
def tnames(tables:List M.Table):List ByteArray:=tables.map M.Table.name
def ExprOk(d:Nat):Prop:=∀(t:M.Tree) (seg:Bool) (at_:Int) (g mb D:Nat) (f:KKey->Option Int) (env:List (ByteArray×Int)) (dests:List ByteArray) (tables:List M.Table) (S:Nat->Prop) (A:Option Addr) (c:Nat) (w:World),
 M.okT d 3 t=true->M.wfT t->ChkAt w g mb D f dests tables S->EnvRel f D env->SOk A (M.flat t).length c->LAt ENode w S A (M.flat t).length (M.flat t)->
 Calls Tryz.prog 24 #[.pointer (some ⟨g,0,none⟩),.slice A (M.flat t).length c,.int .i64 at_,.bool seg] w (ExprP w (M.kindE (tnames tables) env d seg t))
def CallOk(d:Nat):Prop:=∀(x:M.Node) (ks:List M.Tree) (seg:Bool) (at_:Int) (g mb D:Nat) (f:KKey->Option Int) (env:List (ByteArray×Int)) (dests:List ByteArray) (tables:List M.Table) (S:Nat->Prop) (A:Option Addr) (c:Nat) (w:World),
 M.okT (d+1) 3 (.mk x ks)=true->M.wfT (.mk x ks)->x.op=23->ChkAt w g mb D f dests tables S->EnvRel f D env->SOk A (M.flat (.mk x ks)).length c->LAt ENode w S A (M.flat (.mk x ks)).length (M.flat (.mk x ks))->
 Calls Tryz.prog 81 #[.pointer (some ⟨g,0,none⟩),.slice A (M.flat (.mk x ks)).length c,.int .i64 at_] w (ExprP w (M.kindE (tnames tables) env (d+1) seg (.mk x ks)))
theorem fnQ_size(fn:M.Fn):(fnQ fn).1.size=fn.args.length:=by simp[fnQ]
theorem intEq_any(v:Value)(B mb:Nat)(kl:List Int)(fn:M.Fn)(A:Option Addr)(w:World)(hown:OwnE EIntU 3 w B (fun _=>False) v kl)(hlen:kl.length<=1048576)(hA:(A=none/\(fnQ fn).1=#[])\/∃b,A=some ⟨b,0,none⟩/\mb<b/\Blk w b 3 (fnQ fn).1)(hal:fn.args.length<=1048576):
 Calls Tryz.prog 132 #[v,.slice A (fnQ fn).1.size (fnQ fn).1.size] w fun e w'=>e= .returned (.bool (decide (kl=fn.args)))/\Below w.heap.size w w':=by
 have hsz:=fnQ_size fn;rw[hsz]
 have hv:∃A' c,v= .slice A' kl.length c/\((A'=none/\kl.length=0)\/∃g,A'=some ⟨g,0,none⟩):=by
  obtain⟨cs,ho,he⟩:=hown.row;rcases ho.2 with⟨h1,h2⟩|⟨g,cap,cur,h1,h2,h3⟩
  ·have this:kl.length=0:=by simpa using h2
   exact⟨none,0,by rw[h1,this],.inl ⟨rfl,this⟩⟩
  ·exact⟨_,cap,h1,.inr ⟨g,rfl⟩⟩
 obtain⟨A',c,rfl,hA'⟩:=hv;by_cases hn:kl.length=fn.args.length
 ·by_cases h0:kl.length=0
  ·have e1:kl=[]:=List.eq_nil_of_length_eq_zero h0
   have e2:fn.args=[]:=List.eq_nil_of_length_eq_zero (hn▸h0);rw[e1,e2];refine(Tryz.slices_Equal_int_empty A' A c 0 0 w (by omega)).mono ?_
   rintro e w' ⟨rfl,rfl⟩;exact⟨rfl,Below.refl _ _⟩
  ·rcases hA' with⟨-,h⟩|⟨g,rfl⟩
   ·exact absurd h h0
   rcases hA with⟨-,h⟩|⟨b,rfl,-,hb⟩
   ·rw[h] at hsz
    exact absurd (hn.trans hsz.symm) h0
   refine(Tryz.slices_Equal_int g 0 kl.length c b 0 fn.args.length fn.args.length kl fn.args w (n_) (n_) (by omega) (by omega) ?_ ?_).mono ?_
   ·intro j hj
    obtain⟨g2,cap,x,u,e1,hx,hr,hc,-,-⟩:=hown.in1 rfl hj;injection e1 with e1 e2 e3;injection e1 with e1;injection e1 with e1;subst e1;obtain⟨e4,-⟩:=hr;simp at e4;subst e4;rw[Nat.zero_add,hc,List.getD_eq_getElem?_getD,hx];rfl
   ·intro j hj
    rw[Nat.zero_add,hb.cell j];simp[fnQ,hj]
   ·rintro e w' ⟨rfl,k,rfl⟩
    exact⟨by rw[List.take_length,List.take_length,Bool.beq_eq_decide_eq],below_drewN (Below.refl _ _) _⟩
 ·have hne:kl≠fn.args:=fun h=>hn (by rw[h])
  refine(Tryz.slices_Equal_int_lens A' A kl.length c fn.args.length fn.args.length w hn).mono ?_
  rintro e w' ⟨rfl,rfl⟩;exact⟨by simp[hne],Below.refl _ _⟩
theorem look_mem{β:Type}(key:ByteArray):∀(l:List (ByteArray×β)) (v:β),M.look key l=some v->∃p∈l,p.2=v
 |[],v,h=>by simp[M.look] at h
 |(k,u)::l,v,h=>by
  unfold M.look at h;split at h
  ·cases h
   exact⟨_,List.mem_cons_self,rfl⟩
  ·obtain⟨p,hp,e⟩:=look_mem key l v h
   exact⟨p,List.mem_cons_of_mem _ hp,e⟩
theorem fns_facts{text:ByteArray}{fn:M.Fn}(h:M.look text M.fns=some fn):fn.args.length<=3/\(fn.args=[]->fn.sort≠1/\fn.sort≠2/\fn.table=false):=by
 obtain⟨p,hp,rfl⟩:=look_mem _ _ _ h;have:∀p∈M.fns,p.2.args.length<=3/\(p.2.args=[]->p.2.sort≠1/\p.2.sort≠2/\p.2.table=false):=by decide
 exact this p hp
theorem hasT_range(tables:List M.Table)(text:ByteArray):((List.range tables.length).any fun k=>M.eqT ((tables[k]?).elim ByteArray.empty M.Table.name) text)=M.hasT (tnames tables) text:=by
 rw[Bool.eq_iff_iff];simp only[M.hasT,tnames,List.any_eq_true,List.mem_range,List.mem_map];constructor
 ·rintro⟨k,hk,h⟩
  refine⟨_,⟨tables[k],List.getElem_mem hk,rfl⟩,?_⟩;rw[List.getElem?_eq_getElem hk] at h;simp only[Option.elim] at h;rw[eqT_iff_] at h⊢;exact h.symm
 ·rintro⟨_,⟨t,ht,rfl⟩,h⟩
  obtain⟨k,hk,rfl⟩:=List.getElem_of_mem ht;refine⟨k,hk,?_⟩;rw[List.getElem?_eq_getElem hk];simp only[Option.elim];rw[eqT_iff_] at h⊢;exact h.symm
theorem tabs_any(tables:List M.Table)(S:Nat->Prop)(tA:Option Addr)(tc b10:Nat)(lA ad:Addr)(n lc m c:Nat)(text:ByteArray)(w:World)(hok:SOk tA tables.length tc)(hT:LAt ETable w S tA tables.length tables)(hS:∀b,S b->b<w.heap.size)(hb:Blk w b10 146 #[.slice (some lA) n lc])(hn:0<n)(hl:w.cell? lA=some (.slice (some ad) m c))(hm:0<m)(hx:w.cell? ⟨ad.block,ad.off+2,none⟩=some (.string text))(hlA:lA.block<w.heap.size)(had:ad.block<w.heap.size):
 Calls Tryz.prog 133 #[.slice tA tables.length tc,.func (.func 134) #[] #[.pointer (some ⟨b10,0,none⟩)]] w fun e w'=>e= .returned (.bool (M.hasT (tnames tables) text))/\Below w.heap.size w w':=by
 refine(hasTab_any ETable rfl (fun k=>M.eqT ((tables[k]?).elim ByteArray.empty M.Table.name) text) (fun _ W=>Below w.heap.size w W) 134 #[.pointer (some ⟨b10,0,none⟩)] tA tables.length tc tables S w enters_tab1 hok (Below.refl _ _) (fun k W hW=>hT.below hW hS) ?_).mono ?_
 ·intro k W x u v hk hW hx2 hr
  obtain⟨A3,c3,e3,hn3,-,-⟩:=ETable.inv hr;injection e3 with e3 e4;injection e4 with e4;subst e3 e4;refine(tab1_any x.name _ b10 lA ad n lc m c text W (hb.below hW hb.lt) hn ((hW.cell (p:=lA) hlA).trans hl) hm ((hW.cell (p:=⟨ad.block,ad.off+2,none⟩) had).trans hx) (Nat.lt_of_lt_of_le hlA hW.size) (Nat.lt_of_lt_of_le had hW.size)).mono ?_
  rintro e w' ⟨rfl,h⟩;refine⟨?_,hW.trans (h.mono hW.size)⟩;rw[hx2];rfl
 ·rintro e w' ⟨rfl,k,h⟩
  exact⟨by rw[hasT_range],h⟩
end
end Go.Proofs.YtnocnbklhikmnaaGreatDoor
