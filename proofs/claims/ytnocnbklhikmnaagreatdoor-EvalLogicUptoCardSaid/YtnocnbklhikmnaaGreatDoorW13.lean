/- Part 13 of the proof. -/
import Derived.Test.YtnocnbklhikmnaaGreatDoorW7
import Derived.Test.YtnocnbklhikmnaaGreatDoorW10
import Derived.Laws.Append
import Derived.Room.Entries
import Derived.MapKept
import Derived.Laws.Tables
import Derived.Lib.UnsafeStr
import Derived.RangeFuncRecord
import Derived.OrdersIn
import Derived.TacticsIn
set_option linter.unusedVariables false
set_option maxRecDepth 1000000
set_option maxHeartbeats 16000000
namespace Go.Proofs.YtnocnbklhikmnaaGreatDoor.Rk
open Go
section
variable {ρ ρ':Env} {T1 T2:Nat->Nat->Prop} {p q:St} {w w':World} {h h':Nat->Option ABlk}
theorem good_frame(hG:Good ρ T1 h w)(hp:Pre ρ T2 p q w)(hpost:Post ρ T2 p w ρ' q w')(hm:Mono p q)(hlog:p.log=[])(hsub:∀b i,T2 b i->T1 b i)(hlive:∀b,(∃i,T2 b i)->∃z,h b=some z/\live z)(hnew:∀b i,p.n<=b->b<q.n->¬T1 b i)(hcov:∀e∈q.log,e.blk<p.n->∀i,e.at e.blk i->T2 e.blk i)(ha:∀b,p.n<=b->b<q.n->h' b=q.heap.get b)(hb:∀b y,(∃i,T1 b i)->(∀i,¬T2 b i)->h' b=some y->live y->h b=some y)(hc:∀b y',(∃i,T2 b i)->h' b=some y'->live y'->∃y,q.heap.get b=some y/\live y/\(match y with
   | .cells t cs'=>∃cs,y'= .cells t cs/\cs.length=cs'.length/\(∀i,T2 b i->cs[i]? =cs'[i]?)/\((∀i,T2 b i)\/∃cs0,h b=some (.cells t cs0)/\∀i,¬T2 b i->cs[i]? =cs0[i]?)
   |y=>y'=y)):Good ρ' (Tn T1 p.n q.n) h' w':=by
 have hwr:∀e∈q.log,∀r,ρ e.blk=some r->∀i,e.at e.blk i->T2 e.blk i:=by
  intro e he r hr i hi;have h1:e.blk<q.n:=hm.lb hp.wf (by rw[hlog];simp) e he;by_cases h2:e.blk<p.n
  ·exact hcov e he h2 i hi
  ·rw[hp.fresh e.blk (by omega) h1] at hr;cases hr
 have hinj:∀b r i,T2 b i->∀b' r' y',ρ b=some r->ρ b'=some r'->h b'=some y'->live y'->(∃i,T1 b' i)->r.blk=r'.blk->b=b':=by
  intro b r i hi b' r' y' hr hr' hy' hl' ht' e;obtain⟨z,hz,hzl⟩:=hlive b ⟨i,hi⟩;exact hG.inj b b' r r' z y' hz hy' hzl hl' ⟨i,hsub b i hi⟩ ht' hr hr' e
 have hquiet:∀b r y,ρ b=some r->h b=some y->live y->(∃i,T1 b i)->(∀i,¬T2 b i)->w'.heap[r.blk]? =w.heap[r.blk]? :=by
  intro b r y hr hy hl hT hn;refine hpost.unch.block r.blk (hG.old b r hr) (fun o hw=> ?_);obtain⟨e,he,r',h1,h2,h3⟩:=hw
  have hi:∃i,e.at e.blk i:=by
   cases e with
   |rd=>exact h3.elim
   |wr c j n=>exact⟨j,rfl,n_,by omega⟩
   |all c=>exact⟨0,rfl⟩
  obtain⟨i,hi⟩:=hi;have ht:=hwr e he r' h1 i hi;have:=hinj e.blk r' i ht b r y h1 hr hy hl hT h2;exact hn i (this▸ht)
 have told:∀b,∀i,Tn T1 p.n q.n b i->T1 b i\/p.n<=b/\b<q.n:=fun b i h=>h;refine⟨fun b y hy hT=> ?_,fun b b' r r' y y' hy hy' hl hl' ht ht' hr hr' e=> ?_,hpost.good.old⟩
 ·by_cases hl:live y
  ·by_cases hmade:p.n<=b/\b<q.n
   ·rw[ha b hmade.1 hmade.2] at hy
    exact(hpost.good.sat b y hy ⟨0,.inr hmade⟩).mono (Env.le_refl _) (fun i _=> .inr hmade) (fun _ _=>rfl)
   ·have hT1:∃i,T1 b i:=by
     obtain⟨i,hi⟩:=hT;rcases hi with hi|hi
     ·exact⟨i,hi⟩
     ·exact absurd hi hmade
    have hTT:∀i,Tn T1 p.n q.n b i->T1 b i:=fun i hi=>hi.elim id (fun hi=>absurd hi hmade);by_cases ht2:∃i,T2 b i
    ·obtain⟨y0,hq,hyl,hrel⟩:=hc b y ht2 hy hl
     have hbr:=hpost.good.sat b y0 hq (by obtain⟨i,hi⟩:=ht2;exact⟨i,.inl hi⟩);cases y0 with
     |cells t cs'=>
      obtain⟨cs,rfl,hlen,hin,hout⟩:=hrel;obtain⟨r,c,fr,g1,g2,g3,g4,g5,g6⟩:=hbr;refine⟨r,c,fr,g1,g2,g3,by rw[hlen];exact g4,g5,fun i a hai hTi=> ?_⟩;by_cases hti:T2 b i
      ·rw[hin i hti] at hai
       exact g6 i a hai (.inl hti)
      ·rcases hout with hout|⟨cs0,hh0,hout⟩
       ·exact absurd (hout i) hti
       ·rw[hout i hti] at hai
        obtain⟨r0,c0,fr0,k1,k2,k3,k4,k5,k6⟩:=hG.sat b _ hh0 hT1;have hr0:r0=r:=Option.some.inj ((hpost.ext b r0 k1).symm.trans g1);subst hr0;obtain⟨v,hv,hR⟩:=k6 i a hai (hTT i hTi);have hbl:∀e∈q.log,∀r',ρ e.blk=some r'->r'.blk=r0.blk->∀j,e.at e.blk j->e.blk=b:=fun e he r' hr' hbk j hj=>hinj e.blk r' j (hwr e he r' hr' j hj) b r0 _ hr' k1 hh0 trivial hT1 hbk
        obtain⟨c1,m1,m2,m3⟩:=hpost.unch.cells r0.blk c0 (t/2) fr0 k2 (fun⟨b1,r1,n1,n2,n3⟩=>by
         have:=hbl _ n1 r1 n2 n3 i rfl;have h7:=hwr _ n1 r1 n2 i rfl;simp only[LE.blk] at this h7;rw[this] at h7;exact hti h7)
        rw[m1] at g2;simp only[Option.some.injEq,Obj.cells.injEq] at g2;obtain⟨g2,_,_⟩:=g2;subst g2;refine⟨v,?_,hR.mono hpost.ext⟩
        rw[m3 _ (fun⟨e,he,r',n1,n2,n3⟩=>by
         cases e with
         |rd=>exact n3.elim
         |wr b1 j n=>
          have h8:(LE.wr b1 j n).at b1 j:=⟨rfl,n_,by omega⟩
          have hbb:=hbl _ he r' n1 n2 j h8;simp only[LE.blk] at hbb n1;subst hbb;have:r'=r0:=Option.some.inj (n1.symm.trans k1);subst this;exact hti (hwr _ he r' n1 i ⟨rfl,by omega,by omega⟩)
         |all b1=>
          have hbb:=hbl _ he r' n1 n2 i rfl;simp only[LE.blk] at hbb n1;subst hbb;exact hti (hwr _ he r' n1 i rfl))]
        exact hv
     |map es clock=>subst hrel;exact hbr
     |miter m a1 a2 a3=>subst hrel;exact hbr
     |siter a1 a2=>subst hrel;exact hbr
     |pmap a1=>subst hrel;exact hbr
     |defd=>subst hrel;exact hbr
     |loop a1 a2 a3 a4 a5 a6 a7 a8=>subst hrel;exact hbr
     |dead=>exact hyl.elim
    ·have hn2:∀i,¬T2 b i:=fun i hi=>ht2 ⟨i,hi⟩
     have hy0:=hb b y hT1 hn2 hy hl;exact(hG.sat b y hy0 hT1).mono hpost.ext hTT (fun r hr=>hquiet b r y hr hy0 hl hT1 hn2)
  ·cases y<;>first|exact trivial|exact absurd trivial hl
 ·
  have old_:∀b y r,h' b=some y->live y->(∃i,Tn T1 p.n q.n b i)->¬(p.n<=b/\b<q.n)->ρ' b=some r->(∃i,T1 b i)/\(∃z,h b=some z/\live z)/\ρ b=some r:=by
   intro b y r hy hl ht hnm hr
   have hT1:∃i,T1 b i:=by
    obtain⟨i,hi⟩:=ht;rcases hi with hi|hi
    ·exact⟨i,hi⟩
    ·exact absurd hi hnm
   have hz:∃z,h b=some z/\live z:=by
    by_cases ht2:∃i,T2 b i
    ·exact hlive b ht2
    ·exact⟨y,hb b y hT1 (fun i hi=>ht2 ⟨i,hi⟩) hy hl,hl⟩
   obtain⟨z,hz1,hz2⟩:=hz;obtain⟨r0,o0,hr0,_⟩:=(hG.sat b z hz1 hT1).where_ hz2;have:r0=r:=Option.some.inj ((hpost.ext _ _ hr0).symm.trans hr);subst this;exact⟨hT1,⟨z,hz1,hz2⟩,hr0⟩
  have mix:∀b y r b' y' r',h' b=some y->live y->(∃i,Tn T1 p.n q.n b i)->¬(p.n<=b/\b<q.n)->ρ' b=some r->h' b'=some y'->live y'->(p.n<=b'/\b'<q.n)->ρ' b'=some r'->r.blk=r'.blk->b=b':=by
   intro b y r b' y' r' hy hl ht hnm hr hy' hl' hm' hr' e;obtain⟨hT1,⟨z,hz1,hz2⟩,hr0⟩:=old_ b y r hy hl ht hnm hr;have hno:ρ b'=none:=hp.fresh b' hm'.1 hm'.2;have hlt:=hG.old b r hr0;obtain⟨b1,r1,n1,n2,n3⟩:=hpost.fr b' r' hno hr' (by omega);have ht2:=hwr _ n1 r1 n2 0 rfl;have hbb:=hinj b1 r1 0 ht2 b r z n2 hr0 hz1 hz2 hT1 (by omega);subst hbb;obtain⟨y0,hq,hyl,_⟩:=hc b1 y ⟨0,ht2⟩ hy hl;rw[ha b' hm'.1 hm'.2] at hy';exact hpost.good.inj b1 b' r r' y0 y' hq hy' hyl hl' ⟨0,.inl ht2⟩ ⟨0,.inr hm'⟩ hr hr' e
  by_cases hmb:p.n<=b/\b<q.n
  ·by_cases hmb':p.n<=b'/\b'<q.n
   ·rw[ha b hmb.1 hmb.2] at hy
    rw[ha b' hmb'.1 hmb'.2] at hy';exact hpost.good.inj b b' r r' y y' hy hy' hl hl' ⟨0,.inr hmb⟩ ⟨0,.inr hmb'⟩ hr hr' e
   ·exact(mix b' y' r' b y r hy' hl' ht' hmb' hr' hy hl hmb hr e.symm).symm
  ·by_cases hmb':p.n<=b'/\b'<q.n
   ·exact mix b y r b' y' r' hy hl ht hmb hr hy' hl' hmb' hr' e
   ·obtain⟨hT1,⟨z,hz1,hz2⟩,hr0⟩:=old_ b y r hy hl ht hmb hr
    obtain⟨hT1',⟨z',hz1',hz2'⟩,hr0'⟩:=old_ b' y' r' hy' hl' ht' hmb' hr';exact hG.inj b b' r r' z z' hz1 hz1' hz2 hz2' hT1 hT1' hr0 hr0' e
end
end Go.Proofs.YtnocnbklhikmnaaGreatDoor.Rk
namespace Go.Proofs.YtnocnbklhikmnaaGreatDoor
variable{k:Nat}{l:List M.Seg}{name s:ByteArray}
open Go Go.RowKit Go.BigFrame
theorem eqT_text(s t:ByteArray):(s.toList==t.toList)=M.eqT s t:=by simp[M.eqT,ByteArray.toList_eq]
theorem enters_at1:Enters Tryz.prog 227:=fun _ _=>rfl
theorem at1_any(g1 g2:Nat)(hne:g1≠g2)(sn name:ByteArray)(v:Value)(o:Int)(w:World)(h1:Blk w g1 9 #[.string name])(h2:Blk w g2 3 #[.int .i64 o]):
 Calls Tryz.prog 227 #[.agg #[.string sn,v],.pointer (some ⟨g1,0,none⟩),.pointer (some ⟨g2,0,none⟩)] w fun e w'=>e= .returned (.bool (M.eqT sn name&&decide (wrap64 (o-1)=0)))/\w.grownBy w' (some g2)/\Blk w' g2 3 #[.int .i64 (if M.eqT sn name=true then wrap64 (o-1) else o)]:=by
 have hx:=eqT_text sn name;obtain⟨w1,hw1⟩:∃w1,w1=w.alloc (.cells #[.string sn,v] 45):=⟨_,rfl⟩
 have E1:=q_ (show Blk w1 w.heap.size 45 #[.string sn,v] from hw1▸Blk.new w _ _);have E2:=q_ (show Blk w1 g1 9 #[.string name] from hw1▸h1.alloc _);have E3:=q_ (show Blk w1 g2 3 #[.int .i64 o] from hw1▸h2.alloc _);have B1:=q_ (show Stays w w1 from hw1▸(Below.refl _ w).alloc (n_) _);have hz:=h2.lt;have hz1:=h1.lt;have hz2:w.heap.size<w1.heap.size:=by rw[hw1];simp
 have z1:=fun i=>E1.o.cell i;have z2:=fun i=>E2.o.cell i;have z3:=fun i=>E3.o.cell i;have f3:=fun i=>E3.o.frozen i;have y2:=fun i=>h1.cell i;have y3:=fun i=>h2.cell i;have yf:=fun i=>h2.frozen i;go_enter Tryz.func227,Tryz.ntmps227;cases hb:M.eqT sn name
 ·rw[hb] at hx
  go_wp2_with fail;rw[<-hw1];go_wp2;go_ret;exact⟨by simp[],B1.o.grown _,by simpa[hb] using E3.o⟩
 ·rw[hb] at hx
  go_wp2_with fail;go_ret;refine⟨?_,(grown_set w g2 0 _).trans (World.grownBy_alloc _ _ _),?_⟩
  ·have hq:(wrap64 (o-1)==0)=(true&&decide (wrap64 (o-1)=0)):=by rw[Bool.true_and,Bool.eq_iff_iff];simp
   exact congrArg (fun b=>Ending.returned (.bool b)) hq
  simpa using(h2.set_ 0 (.int .i64 (wrap64 (o-1)))).alloc (.cells #[.string sn,v] 45)
def cntN(l:List M.Seg)(name:ByteArray)(k:Nat):Nat:=((l.take k).filter fun s=>M.eqT s.name name).length
theorem cntN_zero(l:List M.Seg)(name:ByteArray):cntN l name 0=0:=rfl
theorem cntN_succ{s:M.Seg}(h:l[k]? =some s):cntN l name (k+1)=cntN l name k+if M.eqT s.name name=true then 1 else 0:=by
 unfold cntN;rw[List.take_add_one,h];simp[List.filter_append];split<;>simp_all
theorem cntN_le(l:List M.Seg)(name:ByteArray)(k:Nat):cntN l name k<=k:=by
 unfold cntN;exact Nat.le_trans (List.length_filter_le _ _) (List.length_take_le _ _)
def atQ(l:List M.Seg)(name:ByteArray)(occ:Int)(k:Nat):Bool:=match l[k]?with
 |some s=>M.eqT s.name name&&decide (occ=(cntN l name (k+1):Int))
 |none=>false
theorem atQ_some{occ:Int}{s:M.Seg}(h:l[k]? =some s):atQ l name occ k=(M.eqT s.name name&&decide (occ=(cntN l name (k+1):Int))):=by unfold atQ;rw[h]
theorem atQ_cons(s:M.Seg)(l:List M.Seg)(name:ByteArray)(occ:Int)(k:Nat):atQ (s::l) name occ (k+1)=atQ l name (if M.eqT s.name name=true then occ-1 else occ) k:=by
 unfold atQ;rw[List.getElem?_cons_succ];cases h:l[k]?with
 |none=>rfl
 |some x=>
  have:cntN (s::l) name (k+1+1)=cntN l name (k+1)+if M.eqT s.name name=true then 1 else 0:=by
   unfold cntN;rw[List.take_succ_cons,List.filter_cons];split<;>simp
  simp only[this];by_cases he:M.eqT s.name name=true
  ·simp only[he,if_true]
   congr 1;rw[Bool.eq_iff_iff];simp;omega
  ·simp[he]
theorem firstI_step(m:Nat)(q:Nat->Bool):firstI (m+1) q=if q 0=true then 0 else if firstI m (fun k=>q (k+1))<0 then-1 else firstI m (fun k=>q (k+1))+1:=by
 by_cases h0:q 0=true
 ·rw[if_pos h0]
  exact firstI_hit (k:=0) (by omega) h0 (fun j hj=>absurd hj (Nat.not_lt_zero j))
 ·rw[if_neg h0]
  by_cases he:∃k,k<m/\q (k+1)=true/\∀j,j<k->q (j+1)=false
  ·obtain⟨k,hk,hq,hno⟩:=he
   rw[firstI_hit (m:=m) (q:=fun k=>q (k+1)) hk hq hno,if_neg (by omega)]
   exact firstI_hit (k:=k+1) (by omega) hq (fun j hj=>by
    cases j with
    |zero=>simpa using h0
    |succ j=>exact hno j (by omega))
  ·have hall:∀j,j<m->q (j+1)=false:=by
    intro j
    induction j using Nat.strongRecOn with
    |ind j ih=>
     intro hj;cases hq:q (j+1) with
     |false=>rfl
     |true=>exact absurd ⟨j,hj,hq,fun i hi=>ih i hi (by omega)⟩ he
   rw[firstI_none (m:=m) (q:=fun k=>q (k+1)) hall,if_pos (by omega)]
   exact firstI_none (fun j hj=>by
    cases j with
    |zero=>simpa using h0
    |succ j=>exact hall j (by omega))
theorem at_shift(name:ByteArray):∀(l:List M.Seg) (occ i:Int),0<=i->M.at_ name l occ i=if firstI l.length (atQ l name occ)<0 then-1 else firstI l.length (atQ l name occ)+i
 |[],occ,i,hi=>by simp[M.at_,firstI]
 |s::l,occ,i,hi=>by
  rw[List.length_cons,firstI_step]
  have e0:atQ (s::l) name occ 0=(M.eqT s.name name&&decide (occ=1)):=by
   rw[atQ_some (s:=s) rfl,cntN_succ (s:=s) rfl,cntN_zero];by_cases he:M.eqT s.name name=true<;>simp[he]
  have e1:(fun k=>atQ (s::l) name occ (k+1))=atQ l name (if M.eqT s.name name=true then occ-1 else occ):=funext fun k=>atQ_cons s l name occ k;rw[e0,e1];unfold M.at_;by_cases he:M.eqT s.name name=true
  ·by_cases ho:occ=1
   ·simp[he,ho]
   ·have ih:=at_shift name l (occ-1) (i+1) (by omega)
    simp only[he,if_true,ho,if_false,decide_false,Bool.and_false,Bool.false_eq_true,ih];split
    ·simp
    ·rw[if_neg (by omega)];omega
  ·have ih:=at_shift name l occ (i+1) (by omega)
   simp only[he,if_false,ih,Bool.false_and,Bool.false_eq_true];split
   ·simp
   ·rw[if_neg (by omega)];omega
theorem at0_eq(name:ByteArray)(l:List M.Seg)(occ:Int):M.at0 l name occ=firstI l.length (atQ l name occ):=by
 unfold M.at0;rw[at_shift name l occ 0 (by omega)];split
 ·have:∀m (q:Nat->Bool),firstI m q<0->firstI m q= -1:=fun m q h=>by
   unfold firstI at h⊢;split at h<;>simp_all<;>omega
  rw[this _ _ (by assumption)]
 ·omega
theorem wrap_back(o:Int)(n:Nat)(ho:I64 o)(hn:n<=1048576):(wrap64 (o-n)=0)<->(o=(n:Int)):=by
 unfold I64 at ho;unfold wrap64;omega
theorem wrap_step(o:Int)(n:Nat):wrap64 (wrap64 (o-n)-1)=wrap64 (o-(n+1:Nat)):=by
 unfold wrap64;omega
theorem wrap_self(o:Int)(ho:I64 o):wrap64 o=o:=by
 unfold I64 at ho;unfold wrap64;omega
theorem at_any(d:M.Delims)(A:Option Addr)(c:Nat)(l:List M.Seg)(name:ByteArray)(occ:Int)(S:Nat->Prop)(w:World)(hS:∀b,S b->b<w.heap.size)(hok:SOk A l.length c)(hl:LAt ESeg w S A l.length l)(ho:I64 occ):
 Calls Tryz.prog 136 #[.agg #[.int .u8 (d.f.toNat:Int),.int .u8 (d.c.toNat:Int),.int .u8 (d.r.toNat:Int),.int .u8 (d.e.toNat:Int),.int .u8 (d.s.toNat:Int),.slice A l.length c],.string name,.int .i64 occ] w fun e w'=>e= .returned (.int .i64 (M.at0 l name occ))/\Below w.heap.size w w':=by
 rw[at0_eq];have hm:=hok.le;obtain⟨w1,hw1⟩:∃w1,w1=w.alloc (.cells #[.int .u8 (d.f.toNat:Int),.int .u8 (d.c.toNat:Int),.int .u8 (d.r.toNat:Int),.int .u8 (d.e.toNat:Int),.int .u8 (d.s.toNat:Int),.slice A l.length c] 26):=⟨_,rfl⟩
 obtain⟨w2,hw2⟩:∃w2,w2=w1.alloc (.cells #[.string name] 9):=⟨_,rfl⟩
 obtain⟨w3,hw3⟩:∃w3,w3=w2.alloc (.cells #[.int .i64 occ] 3):=⟨_,rfl⟩
 have s1:w1.heap.size=w.heap.size+1:=by rw[hw1];simp
 have s2:w2.heap.size=w.heap.size+2:=by rw[hw2];simp[s1]
 have s3:w3.heap.size=w.heap.size+3:=by rw[hw3];simp[s2]
 have X1:=q_ (show Blk w3 w.heap.size 26 #[.int .u8 (d.f.toNat:Int),.int .u8 (d.c.toNat:Int),.int .u8 (d.r.toNat:Int),.int .u8 (d.e.toNat:Int),.int .u8 (d.s.toNat:Int),.slice A l.length c] by rw[hw3,hw2,hw1];exact((Blk.new w _ _).alloc _).alloc _);have X2:=q_ (show Blk w3 (w.heap.size+1) 9 #[.string name] by rw[hw3,hw2];exact s1▸(Blk.new w1 _ _).alloc _);have X3:=q_ (show Blk w3 (w.heap.size+2) 3 #[.int .i64 occ] by rw[hw3];exact s2▸Blk.new w2 _ _);have B3:=q_ (show Below w.heap.size w w3 by rw[hw3,hw2,hw1];exact(((Below.refl _ w).alloc (n_) _).alloc (by simp) _).alloc (by simp;omega) _)
 have K:=idxSeg_any ESeg rfl (atQ l name occ) (fun k W=>k<=l.length/\Below w.heap.size w W/\Blk W (w.heap.size+1) 9 #[.string name]/\Blk W (w.heap.size+2) 3 #[.int .i64 (wrap64 (occ-(cntN l name k:Nat)))]) 227 #[.pointer (some ⟨w.heap.size+1,0,none⟩),.pointer (some ⟨w.heap.size+1+1,0,none⟩)] A l.length c l S w3 enters_at1 hok ⟨by omega,B3.o,X2.o,by rw[cntN_zero];simpa[wrap_self occ ho] using X3.o⟩ (fun k W h=>hl.below h.2.1 hS) (by
  rintro k W x u v hk ⟨hk1,hb,h2,h3⟩ hx hr;obtain⟨A2,c2,e,-,-,-⟩:=ESeg.inv hr;injection e with e e2;subst e;refine(at1_any (w.heap.size+1) (w.heap.size+1+1) (by omega) x.name name v _ W h2 h3).mono ?_
  rintro e w4 ⟨rfl,hg,hb4⟩;have hc:=cntN_succ (name:=name) hx;have hle:=cntN_le l name (k+1);refine⟨?_,by omega,below_gr hb hg (by omega),h2.grownAt hg (by omega),?_⟩
  ·rw[atQ_some hx,wrap_step]
   cases he:M.eqT x.name name
   ·simp
   ·rw[he] at hc
    simp only[if_true] at hc;rw[hc];simp only[Bool.true_and];rw[Ending.returned.injEq,Value.bool.injEq,Bool.eq_iff_iff,decide_eq_true_iff,decide_eq_true_iff];exact wrap_back occ _ ho (by omega)
  ·rw[wrap_step] at hb4
   rw[hc];cases he:M.eqT x.name name
   ·simpa[he] using hb4
   ·simpa[he] using hb4)
 clear hl hok hS;have KK:=q_ K;clear K;generalize firstI l.length (atQ l name occ)=res at*;go_enter Tryz.func136,Tryz.ntmps136;go_wp2_with fail;rw[<-hw1,<-hw2,<-hw3];refine KK.o.mono ?_;rintro e w5 ⟨rfl,k,-,hb5,-,-⟩;have B5:=q_ hb5;clear hb5;go_wp2;go_ret;exact⟨rfl,B5.o⟩
namespace M
mutual
theorem all_flat:∀t:Tree,wfT t->∀x∈flat t,0<=x.n
 | .mk x ks,h,y,hy=>by
   unfold wfT at h;unfold flat at hy;rcases List.mem_cons.1 hy with rfl|hy
   ·rw[h.1];omega
   ·exact all_flats ks h.2 y hy
theorem all_flats:∀l:List Tree,wfL l->∀x∈flats l,0<=x.n
 |[],_,y,hy=>by unfold flats at hy;cases hy
 |t::l,h,y,hy=>by
  unfold wfL at h;unfold flats at hy;rcases List.mem_append.1 hy with hy|hy
  ·exact all_flat t h.1 y hy
  ·exact all_flats l h.2 y hy
end
theorem sumN_ge:∀(l:List Node),(∀x∈l,0<=x.n)-> -(l.length:Int)<=sumN l
 |[],_=>by simp[sumN]
 |x::l,h=>by
  have h1:=h x (by simp);have h2:=sumN_ge l (fun y hy=>h y (by simp[hy]));rw[sumN_cons,List.length_cons];omega
theorem take_le(t:Tree)(h:wfT t)(k:Nat):sumN ((flat t).take k)<=((flat t).length:Int):=by
 have h1:=sum_flat t h;rw[<-List.take_append_drop k (flat t),sumN_append] at h1;have h2:=sumN_ge ((flat t).drop k) (fun x hx=>all_flat t h x (List.mem_of_mem_drop hx));rw[List.length_drop] at h2;omega
theorem sumN_succ{l:List Node}{k:Nat}{x:Node}(h:l[k]? =some x):sumN (l.take (k+1))=sumN (l.take k)+(x.n-1):=by
 rw[List.take_add_one,h,sumN_append,Option.toList_some,sumN_cons,sumN_nil];omega
end M
theorem ENode.inv{w:World}{S:Nat->Prop}{cs:List Value}{x:M.Node}(h:ENode.R w S cs x):cs=x.cells/\x.ok64:=h
theorem end_any(t:M.Tree)(rest:List M.Node)(ht:M.wfT t)(A:Option Addr)(m c:Nat)(S:Nat->Prop)(w:World)(hS:∀b,S b->b<w.heap.size)(hm:m<=1048576)(hl:LAt ENode w S A m (M.flat t++rest)):
 Calls Tryz.prog 135 #[.slice A m c] w fun e w'=>e= .returned (.int .i64 (M.flat t).length)/\Below w.heap.size w w':=by
 have hml:=hl.1;go_enter Tryz.func135,Tryz.ntmps135;go_wp2_with fail;have HL:=q_ hl;have HS:=q_ hS;have h0:=q_ (M.sum_flat t ht);have h1:=q_ (fun k hk=>M.sum_take t k ht hk);have h2:=q_ (fun k=>M.take_le t ht k);have h3:=q_ (M.all_flat t ht);have hfm:(M.flat t).length<=m:=by rw[<-hml,List.length_append];omega
 clear hl hS ht hml;generalize hN:(M.flat t).length=N at*;go_loopw [3,4] (fun x y wr=>∃k:Nat,k<=N/\x= .int .i64 (1+M.sumN ((M.flat t).take k))/\y= .int .i64 k/\Below w.heap.size w wr) (fun _ y _=>N-(intOf y).toNat)
 case atStart=>exact⟨0,by omega,by simp[M.sumN],rfl,Below.refl _ _⟩
 case round=>
  obtain⟨k,hk,rfl,rfl,hb⟩:=hrel;have HB:=q_ hb;clear hb;by_cases hlt:k<N
  ·have g1:=h1.o k hlt
   have g2:=h2.o k;have g3:=h2.o (k+1);obtain⟨ad,x,cs,rfl,hbS,hx,hr,hi⟩:=(HL.o.below HB.o HS.o).in_ (k:=k) (by omega);rw[List.getElem?_append_left (by omega)] at hx;obtain⟨rfl,-⟩:=ENode.inv hr;have hs:=M.sumN_succ hx;have hn:=h3.o x (List.mem_of_getElem? hx)
   have hc:wr.cell? ⟨(ad.add (k*10)).block,(ad.add (k*10)).off+1,none⟩=some (.int .i64 x.n):=by
    have:=hi 1 _ rfl
    rwa [show ENode.n=10 from rfl,cell_add 1 (by omega)] at this
   generalize M.sumN ((M.flat t).take k)=q at*;have q1:decide (0<1+q)=true:=by simp;omega
   rw[hs] at g3;have b1:wrap64 (x.n-1)=x.n-1:=by unfold wrap64;omega
   have b2:wrap64 (1+q+(x.n-1))=1+q+(x.n-1):=by unfold wrap64;omega
   have hkm:k<m:=by omega
   go_wp2_with fail;go_roundw
   case rel=>exact⟨k+1,by omega,by rw[hs];simp[Int.add_assoc],by go_num,HB.o⟩
   case measure=>simp[intOf];omega
  ·obtain rfl:k=N:=by omega
   have hall:(M.flat t).take k=M.flat t:=List.take_of_length_le (by omega);rw[hall,h0.o];go_wp2;go_ret;exact⟨by rw[hN];rfl,HB.o⟩
namespace Ad
def isName(s:Bs):Bool:=match s with|[]=>false|c::_=>decide (s.length<=32)&&letter c&&decide (run nameC s=s.length)
end Ad
theorem idx_atu(s:ByteArray)(k:Nat)(hk:k<s.size){i:Int}(hi:i=(k:Int))(W:World):(Instr.index 9 (.string s) (.int .i64 i)).run Tryz.prog W= .ok (.int .u8 (s[k].toNat:Int)) W:=by
 subst hi;simp[go_sem,hk]
theorem text_ne(h:s.size≠0):s.toList.isEmpty=false:=by
 rw[ByteArray.toList_eq];cases hs:s.data.toList with
 |nil=>
  have:=congrArg List.length hs;simp at this;rw[this] at h;exact absurd rfl h
 |cons=>rfl
theorem text_empty(h:s.size=0):s=⟨#[]⟩:=by
 have:s.data=#[]:=Array.eq_empty_of_size_eq_zero h;rw[<-this]
theorem lexName0_any(s:ByteArray)(w:World)(hs:s.size<=1048576):
 Calls Tryz.prog 260 #[.string s] w fun e w'=>e= .returned (.bool (Ad.isName s.data.toList))/\w'=w:=by
 by_cases h0:s.size=0
 ·obtain rfl:=text_empty h0
  go_enter Tryz.func260,Tryz.ntmps260;go_wp2;go_ret;exact⟨rfl,rfl⟩
 ·obtain⟨r,hd⟩:∃r,s.data.toList=s[0]::r:=⟨s.data.toList.drop 1,by
   have:=List.drop_eq_getElem_cons (l:=s.data.toList) (i:=0) (by simpa using Nat.pos_of_ne_zero h0);rw[List.drop_zero] at this;exact this⟩
  have hne:=text_ne h0;have hlen:s.data.toList.length=s.size:=by simp
  have HN:=q_ (show Ad.isName s.data.toList=(decide (s.size<=32)&&Ad.letter s[0]&&decide (Ad.run Ad.nameC s.data.toList=s.size)) by
   have e:∀l:Ad.Bs,l=s[0]::r->Ad.isName l=(decide (l.length<=32)&&Ad.letter s[0]&&decide (Ad.run Ad.nameC l=l.length)):=fun l h=>by
    subst h;rfl
   rw[e _ hd,hlen])
  have hi1:∀W:World,(Instr.index 9 (.string s) (.int .i64 0)).run Tryz.prog W= .ok (.int .u8 (s[0].toNat:Int)) W:=fun W=>idx_atu s 0 (by omega) rfl W;have K1:=q_ (fun W=>letter_any s[0] W);have K2:=q_ (fun W=>runName_any s W hs)
  have hle:Ad.run Ad.nameC s.data.toList<=s.size:=by
   have:=Ad.run_le Ad.nameC s.data.toList
   rwa [hlen] at this
  have hc:=s[0].toNat_lt;generalize Ad.run Ad.nameC s.data.toList=n at*;rw[HN.o];clear hd HN;generalize s[0]=c at*;by_cases h32:s.size<=32
  ·cases hl:Ad.letter c with
   |false=>
    rw[hl] at K1;go_enter Tryz.func260,Tryz.ntmps260;go_wp2_with fail;refine(K1.o _).mono ?_
    rintro e w1 ⟨rfl,rfl⟩;go_wp2_with fail;go_ret;exact⟨by simp,rfl⟩
   |true=>
    rw[hl] at K1;go_enter Tryz.func260,Tryz.ntmps260;go_wp2_with fail;refine(K1.o _).mono ?_
    rintro e w1 ⟨rfl,rfl⟩;go_wp2_with fail;refine(K2.o _).mono ?_
    rintro e w1 ⟨rfl,rfl⟩;go_wp2_with fail;go_ret;refine⟨?_,rfl⟩;by_cases hn:n=s.size
    ·subst hn;simp[h32]
    ·simp[h32,hn]
     omega
  ·go_enter Tryz.func260,Tryz.ntmps260
   go_wp2_with fail;go_ret;exact⟨by simp[],rfl⟩
theorem letter_eq(c:UInt8):Ad.letter c=M.letterB c:=by
 unfold Ad.letter M.letterB;rw[Bool.eq_iff_iff];simp
theorem nameC_eq(c:UInt8):Ad.nameC c=M.inNameB c:=by
 unfold Ad.nameC M.inNameB;rw[letter_eq];rfl
theorem run_all(p:UInt8->Bool):∀l:List UInt8,decide (Ad.run p l=l.length)=l.all p
 |[]=>rfl
 |c::l=>by
  have ih:=run_all p l;unfold Ad.run at ih⊢;rw[List.takeWhile_cons,List.all_cons];cases hp:p c
  ·simp
  ·rw[if_pos rfl,List.length_cons,List.length_cons,Bool.true_and,<-ih,Bool.eq_iff_iff]
   simp
theorem lexName_eq(s:ByteArray):Ad.isName s.data.toList=M.lexName s:=by
 unfold M.lexName M.isE;cases s.data.toList with
 |nil=>rfl
 |cons c l=>
  show(decide ((c::l).length<=32)&&Ad.letter c&&decide (Ad.run Ad.nameC (c::l)=(c::l).length))=_
  rw[run_all,letter_eq,show Ad.nameC=M.inNameB from funext nameC_eq];simp
theorem lexName_any(s:ByteArray)(w:World)(hs:s.size<=1048576):Calls Tryz.prog 260 #[.string s] w fun e w'=>e= .returned (.bool (M.lexName s))/\Below w.heap.size w w':=
 (lexName0_any s w hs).mono fun e w' ⟨he,hw⟩=>⟨by rw[<-lexName_eq];exact he,hw▸Below.refl _ _⟩
theorem ext_end(t:ByteArray)(k:Nat):(t.extract k t.size).data.toList=t.data.toList.drop k:=by
 simp[ByteArray.data_extract];rw[List.take_of_length_le (by simp)]
theorem ext_mid(t:ByteArray)(k n:Nat):(t.extract k (k+n)).data.toList=(t.data.toList.drop k).take n:=by
 simp[ByteArray.data_extract]
theorem ext_to(t:ByteArray)(n:Nat):(t.extract 0 n).data.toList=t.data.toList.take n:=by
 simp[ByteArray.data_extract]
namespace Ad
def signN(l:Bs):Nat:=match l with
 |[]=>0
 |c::r=>if c.toNat=61\/c.toNat=60\/c.toNat=62 then(if Lib.hasPrefix r [61]=true then 2 else 1)
  else if c.toNat=33 then(if Lib.hasPrefix r [61]=true then 2 else 0)
  else if c.toNat=40\/c.toNat=41\/c.toNat=123\/c.toNat=125\/c.toNat=44\/c.toNat=59\/c.toNat=43 then 1 else 0
theorem prefix_len{r:Bs}(h:Lib.hasPrefix r [61]=true):1<=r.length:=by
 cases r with
 |nil=>simp[Lib.hasPrefix] at h
 |cons a r=>simp
theorem signN_len(l:Bs):signN l<=l.length:=by
 unfold signN;cases l with
 |nil=>simp
 |cons c r=>
  simp only[List.length_cons];split
  ·split
   ·rename_i h;have:=prefix_len h;omega
   ·omega
  ·split
   ·split
    ·rename_i h;have:=prefix_len h;omega
    ·omega
   ·split<;>omega
end Ad
theorem sign_any(s:ByteArray)(w:World)(hs:s.size<=1000000)(h0:0<s.size):
 Calls Tryz.prog 219 #[.string s] w fun e w'=>e= .returned (.int .i64 (Ad.signN s.data.toList:Nat))/\w'=w:=by
 have hb:s[0].toNat<256:=s[0].toNat_lt
 have hd:s.data.toList=s[0]::s.data.toList.drop 1:=by
  have:=List.drop_eq_getElem_cons (l:=s.data.toList) (i:=0) (by simpa using h0);rw[List.drop_zero] at this;exact this
 have he:=ext_end s 1;have HS:Ad.signN s.data.toList=Ad.signN (s[0]::(s.extract 1 s.size).data.toList):=by rw[he,<-hd]
 rw[HS];clear HS hd he;have hi:∀W:World,(Instr.index 9 (.string s) (.int .i64 0)).run Tryz.prog W= .ok (.int .u8 (s[0].toNat:Int)) W:=fun W=>idx_atu s 0 h0 (i:=0) rfl W;generalize s[0]=c0 at*;have HP:=q_ (fun W=>Tryz.strings_HasPrefix (s.extract 1 s.size) ⟨#[61]⟩ W);obtain⟨q,hq⟩:∃q,Lib.hasPrefix (s.extract 1 s.size).data.toList [61]=q:=⟨_,rfl⟩
 have HQ:=q_ (show Lib.hasPrefix (s.extract 1 s.size).data.toList (⟨#[61]⟩:ByteArray).data.toList=q from hq)
 have HS:Ad.signN (c0::(s.extract 1 s.size).data.toList)=if c0.toNat=61\/c0.toNat=60\/c0.toNat=62 then(if q=true then 2 else 1)
  else if c0.toNat=33 then(if q=true then 2 else 0)
  else if c0.toNat=40\/c0.toNat=41\/c0.toNat=123\/c0.toNat=125\/c0.toNat=44\/c0.toNat=59\/c0.toNat=43 then 1 else 0:=by rw[<-hq];rfl
 rw[HS];clear HS hq;generalize c0.toNat=c at*;rcases(by omega:c=61\/c=60\/c=62\/c=33\/c=40\/c=41\/c=123\/c=125\/c=44\/c=59\/c=43\/(c≠61/\c≠60/\c≠62/\c≠33/\c≠40/\c≠41/\c≠123/\c≠125/\c≠44/\c≠59/\c≠43)) with h|h|h|h|h|h|h|h|h|h|h|h
 case inr.inr.inr.inr.inr.inr.inr.inr.inr.inr.inr=>
  rw[if_neg (by omega),if_neg (by omega),if_neg (by omega)];obtain⟨h1,h2,h3,h4,h5,h6,h7,h8,h9,h10,h11⟩:=h;go_enter Tryz.func219,Tryz.ntmps219;go_wp2_with fail;go_ret;exact⟨rfl,rfl⟩
 all_goals
  subst h;cases q<;>
  ·go_enter Tryz.func219,Tryz.ntmps219
   go_wp2_with (go_at_call 42;refine(HP.o _).mono ?_;rintro e w ⟨rfl,rfl⟩;rw[HQ.o]);go_ret;exact⟨rfl,rfl⟩
theorem idxText_any(key:ByteArray)(A:Option Addr)(m c:Nat)(xs:List ByteArray)(S:Nat->Prop)(w:World)(hS:∀b,S b->b<w.heap.size)(hm:m<=1048576)(hl:LAt EStr w S A m xs):
 Calls Tryz.prog 248 #[.slice A m c,.string key] w fun e w'=>e= .returned (.int .i64 (firstI m (fun k=>match xs[k]?with|some x=>M.eqT key x|none=>false)))/\Below w.heap.size w w':=by
 obtain⟨q,hq⟩:∃q:Nat->Bool,q=fun k=>match xs[k]?with|some x=>M.eqT key x|none=>false:=⟨_,rfl⟩
 rw[<-hq];have HQ:=q_ (show∀k x,xs[k]? =some x->q k=M.eqT key x from fun k x h=>by rw[hq];simp only[h]);have HL:=q_ hl;have HS:=q_ hS;clear hl hS hq;go_enter Tryz.func248,Tryz.ntmps248;go_wp2_with fail;go_loopw [8] (fun x wr=>∃k:Nat,k<=m/\x= .int .i64 k/\Below w.heap.size w wr/\∀j,j<k->q j=false) (fun x _=>m-(intOf x).toNat)
 case atStart=>exact⟨0,by omega,rfl,Below.refl _ _,fun j hj=>absurd hj (Nat.not_lt_zero j)⟩
 case round=>
  obtain⟨k,hk,rfl,hb,hno⟩:=hrel;have HB:=q_ hb;have NO:=q_ hno;clear hb hno;by_cases hlt:k<m
  ·have q1:decide ((k:Int)<(m:Int))=true:=by simp;omega
   obtain⟨a,x,v,rfl,hbS,hx,hr,hc⟩:=(HL.o.below HB.o HS.o).in1 rfl hlt;obtain⟨rfl,-⟩:=EStr.inv hr;have hqk:=HQ.o k x hx
   have he:(key.toList==x.toList)=M.eqT key x:=by
    exact eqT_text key x
   rw[<-hqk] at he;clear hx hr hqk;cases ht:q k
   ·rw[ht] at he
    have N2:=q_ (show∀j,j<k+1->q j=false from fun j hj=>by
     rcases Nat.lt_or_ge j k with h1|h1
     ·exact NO.o j h1
     ·have:j=k:=by omega
      subst this;exact ht)
    clear ht;go_wp2;go_roundw
    case rel=>exact⟨k+1,by omega,by go_num,HB.o,N2.o⟩
    case measure=>simp[intOf];omega
   ·rw[ht] at he
    have HT:=q_ (firstI_hit hlt ht NO.o);clear ht;go_wp2;go_ret;rw[HT.o];exact⟨rfl,HB.o⟩
  ·have q1:decide ((k:Int)<(m:Int))=false:=by simp;omega
   have HT:=q_ (firstI_none (m:=m) (q:=q) (fun j hj=>NO.o j (by omega)));go_wp2;go_ret;rw[HT.o];exact⟨rfl,HB.o⟩
theorem hasText_any(key:ByteArray)(A:Option Addr)(m c:Nat)(xs:List ByteArray)(S:Nat->Prop)(w:World)(hS:∀b,S b->b<w.heap.size)(hm:m<=1048576)(hl:LAt EStr w S A m xs):
 Calls Tryz.prog 209 #[.slice A m c,.string key] w fun e w'=>e= .returned (.bool (M.hasT xs key))/\Below w.heap.size w w':=by
 have K:=idxText_any key A m c xs S w hS hm hl
 have hn:(decide ((0:Int)<=firstI m (fun k=>match xs[k]?with|some x=>M.eqT key x|none=>false)))=M.hasT xs key:=by
  rw[firstI_nonneg];exact any_range hl.1 (fun k x h=>by simp only[h])
 generalize firstI m (fun k=>match xs[k]?with|some x=>M.eqT key x|none=>false)=r at*;have KK:=q_ K;have HN:=q_ hn;clear K hl hS hn;go_enter Tryz.func209,Tryz.ntmps209;go_wp2_with fail;refine KK.o.mono ?_;rintro e w2 ⟨rfl,hb⟩;have HB:=q_ hb;clear hb;go_wp2;go_ret;exact⟨by rw[<-HN.o];rfl,HB.o⟩
theorem ruleName_any(s:ByteArray)(w:World)(hs:s.size<=1048576):Calls Tryz.prog 243 #[.string s] w fun e w'=>e= .returned (.bool (M.ruleName s))/\Below w.heap.size w w':=by
 have KN:=q_ (lexName_any s w hs);have KR:=q_ (fun(W:World)=>reserved_any W);have KC:=q_ (fun(W:World)=>hasText_any s (some ⟨W.heap.size,0,none⟩) 12 12 M.reserved (fun b=>b=W.heap.size) (W.alloc (.cells reservedCells 9)) (fun b hb=>by rw[hb];simp) (by decide) (reserved_list W));have HR:=q_ (show M.ruleName s=(M.lexName s&& !M.hasT M.reserved s) from rfl);generalize M.hasT M.reserved s=b at*;cases hn:M.lexName s with
 |false=>
  rw[hn] at KN HR;go_enter Tryz.func243,Tryz.ntmps243;go_wp2_with fail;refine KN.o.mono ?_;rintro e w2 ⟨rfl,hb⟩;have HB:=q_ hb;clear hb;go_wp2;go_ret;exact⟨by rw[HR.o];rfl,HB.o⟩
 |true=>
  rw[hn] at KN HR;go_enter Tryz.func243,Tryz.ntmps243;go_wp2_with fail;refine KN.o.mono ?_;rintro e w2 ⟨rfl,hb⟩;have HB:=q_ hb;clear hb;go_wp2_with fail;refine(KR.o w2).mono ?_
  rintro e w3 ⟨rfl,rfl⟩;go_wp2_with fail;refine(KC.o w2).mono ?_
  rintro e w4 ⟨rfl,hb4⟩;have B4:=q_ ((HB.o.alloc HB.o.size (.cells reservedCells 9)).trans (hb4.mono (Nat.le_trans HB.o.size (by simp))));clear hb4;go_wp2;go_ret;exact⟨by rw[HR.o];rfl,B4.o⟩
end Go.Proofs.YtnocnbklhikmnaaGreatDoor
