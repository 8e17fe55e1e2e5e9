/- Part 36 of the proof. -/
import Derived.Test.YtnocnbklhikmnaaGreatDoorW30
import Derived.Test.YtnocnbklhikmnaaGreatDoorW35
set_option linter.unusedVariables false
set_option maxRecDepth 1000000
set_option maxHeartbeats 16000000
namespace Go.Proofs.YtnocnbklhikmnaaGreatDoor
variable{B:Nat}{W:World}{name:List UInt8}{w:World}{x:M.Node}
open Go Go.RowKit Go.BigFrame
theorem or_part(N:Nat)(h:PartOk (.bin 1) 78 N):PartOk (.bin 0) 20 N:=by
 intro w g gb ws res hN hr hR;have K:=q_ (left_any 0 N 78 h (fun _ _=>rfl) w g gb ws res hN hr hR ⟨#[111,114]⟩ rfl 13 rfl);have hmf:∀(fn:Fn) (first cap:Array Value) (w:World),(Instr.makeFunc fn first cap).run Tryz.prog w= .ok (.func fn first cap) w:=fun _ _ _ _=>rfl;clear h hN hr hR;go_enter Tryz.func20,Tryz.ntmps20;go_wp2_with fail;refine K.o.mono ?_;rintro e w1 hp;have HP:=q_ hp;clear hp K hmf;cases res with
 |none=>
  obtain⟨ho,l,c,rfl⟩:=HP.o.bad;unfold panB at*;go_wp2;exact⟨rfl,HP.o⟩
 |some x=>
  obtain⟨ho,⟨ad,c,rfl,-⟩,-⟩:=HP.o.okd;clear ho;go_wp2;go_ret;exact HP.o
theorem and_part(N:Nat)(h:PartOk (.nots 0) 129 N):PartOk (.bin 1) 78 N:=by
 intro w g gb ws res hN hr hR;have K:=q_ (left_any 1 N 129 h (fun _ _=>rfl) w g gb ws res hN hr hR ⟨#[97,110,100]⟩ rfl 14 rfl);have hmf:∀(fn:Fn) (first cap:Array Value) (w:World),(Instr.makeFunc fn first cap).run Tryz.prog w= .ok (.func fn first cap) w:=fun _ _ _ _=>rfl;clear h hN hr hR;go_enter Tryz.func78,Tryz.ntmps78;go_wp2_with fail;refine K.o.mono ?_;rintro e w1 hp;have HP:=q_ hp;clear hp K hmf;cases res with
 |none=>
  obtain⟨ho,l,c,rfl⟩:=HP.o.bad;unfold panB at*;go_wp2;exact⟨rfl,HP.o⟩
 |some x=>
  obtain⟨ho,⟨ad,c,rfl,-⟩,-⟩:=HP.o.okd;clear ho;go_wp2;go_ret;exact HP.o
theorem sum_part(N:Nat)(h:PartOk .unit 271 N):PartOk (.bin 2) 250 N:=by
 intro w g gb ws res hN hr hR;have K:=q_ (left_any 2 N 271 h (fun _ _=>rfl) w g gb ws res hN hr hR ⟨#[43]⟩ rfl 21 rfl);have hmf:∀(fn:Fn) (first cap:Array Value) (w:World),(Instr.makeFunc fn first cap).run Tryz.prog w= .ok (.func fn first cap) w:=fun _ _ _ _=>rfl;clear h hN hr hR;go_enter Tryz.func250,Tryz.ntmps250;go_wp2_with fail;refine K.o.mono ?_;rintro e w1 hp;have HP:=q_ hp;clear hp K hmf;cases res with
 |none=>
  obtain⟨ho,l,c,rfl⟩:=HP.o.bad;unfold panB at*;go_wp2;exact⟨rfl,HP.o⟩
 |some x=>
  obtain⟨ho,⟨ad,c,rfl,-⟩,-⟩:=HP.o.okd;clear ho;go_wp2;go_ret;exact HP.o
theorem compares_any(t:Ps.Tk)(a2 a3 a4 a5 a6 a7 a8 a9 a10:Value)(w:World):Calls Tryz.prog 251 #[.agg #[.int .i64 t.kind,.string ⟨t.text.toArray⟩,a2,a3,a4,a5,a6,a7,a8,a9,a10]] w fun e w'=>e= .returned (.int .i64 (Ps.cmpI t))/\Below w.heap.size w w':=by
 have hB:=q_ ((Below.refl _ w).alloc (n_) (.cells #[.int .i64 t.kind,.string ⟨t.text.toArray⟩,a2,a3,a4,a5,a6,a7,a8,a9,a10] 137));have z0:=(Blk.new w 137 #[.int .i64 t.kind,.string ⟨t.text.toArray⟩,a2,a3,a4,a5,a6,a7,a8,a9,a10]).cell;have HX:=q_ (show Ps.cmpI t=(if t.kind≠5 then-1 else if t.text=[61,61] then 15 else if t.text=[33,61] then 16 else if t.text=[60] then 17 else if t.text=[60,61] then 18 else if t.text=[62] then 19 else if t.text=[62,61] then 20 else-1) from rfl);go_enter Tryz.func251,Tryz.ntmps251;by_cases h5:t.kind=5
 ·have q0:(t.kind !=5)=false:=by rw[h5];rfl
  have HX:=q_ (HX.o.trans (if_neg (by omega)));clear h5;by_cases h:t.text=[61,61]
  ·have q1:(t.text==[61,61])=true:=by simp[h]
   have HY:=q_ (HX.o.trans (if_pos h));clear h;go_wp2_with fail;go_ret;exact⟨congrArg (fun z=>Ending.returned (.int .i64 z)) HY.o.symm,hB.o⟩
  have q1:(t.text==[61,61])=false:=by simp[h]
  have g0:=h;clear h;by_cases h:t.text=[33,61]
  ·have q2:(t.text==[33,61])=true:=by simp[h]
   have HY:=q_ (HX.o.trans ((by rw[if_neg g0,if_pos h]:_=_)));clear h g0;go_wp2_with fail;go_ret;exact⟨congrArg (fun z=>Ending.returned (.int .i64 z)) HY.o.symm,hB.o⟩
  have q2:(t.text==[33,61])=false:=by simp[h]
  have g1:=h;clear h;by_cases h:t.text=[60]
  ·have q3:(t.text==[60])=true:=by simp[h]
   have HY:=q_ (HX.o.trans ((by rw[if_neg g0,if_neg g1,if_pos h]:_=_)));clear h g0 g1;go_wp2_with fail;go_ret;exact⟨congrArg (fun z=>Ending.returned (.int .i64 z)) HY.o.symm,hB.o⟩
  have q3:(t.text==[60])=false:=by simp[h]
  have g2:=h;clear h;by_cases h:t.text=[60,61]
  ·have q4:(t.text==[60,61])=true:=by simp[h]
   have HY:=q_ (HX.o.trans ((by rw[if_neg g0,if_neg g1,if_neg g2,if_pos h]:_=_)));clear h g0 g1 g2;go_wp2_with fail;go_ret;exact⟨congrArg (fun z=>Ending.returned (.int .i64 z)) HY.o.symm,hB.o⟩
  have q4:(t.text==[60,61])=false:=by simp[h]
  have g3:=h;clear h;by_cases h:t.text=[62]
  ·have q5:(t.text==[62])=true:=by simp[h]
   have HY:=q_ (HX.o.trans ((by rw[if_neg g0,if_neg g1,if_neg g2,if_neg g3,if_pos h]:_=_)));clear h g0 g1 g2 g3;go_wp2_with fail;go_ret;exact⟨congrArg (fun z=>Ending.returned (.int .i64 z)) HY.o.symm,hB.o⟩
  have q5:(t.text==[62])=false:=by simp[h]
  have g4:=h;clear h;by_cases h:t.text=[62,61]
  ·have q6:(t.text==[62,61])=true:=by simp[h]
   have HY:=q_ (HX.o.trans ((by rw[if_neg g0,if_neg g1,if_neg g2,if_neg g3,if_neg g4,if_pos h]:_=_)));clear h g0 g1 g2 g3 g4;go_wp2_with fail;go_ret;exact⟨congrArg (fun z=>Ending.returned (.int .i64 z)) HY.o.symm,hB.o⟩
  have q6:(t.text==[62,61])=false:=by simp[h]
  have g5:=h;clear h;have HY:=q_ (HX.o.trans (by rw[if_neg g0,if_neg g1,if_neg g2,if_neg g3,if_neg g4,if_neg g5]:_=(-1:Int)));clear g0 g1 g2 g3 g4 g5;go_wp2_with fail;go_ret;exact⟨congrArg (fun z=>Ending.returned (.int .i64 z)) HY.o.symm,hB.o⟩
 ·have q0:(t.kind !=5)=true:=by rw[bne_iff_ne];exact h5
  have HY:=q_ (HX.o.trans (if_pos h5));clear h5;go_wp2_with fail;go_ret;exact⟨congrArg (fun z=>Ending.returned (.int .i64 z)) HY.o.symm,hB.o⟩
theorem nodes_key{ad:Addr}{n:List M.Node}(h:LAt ENode w (fun b=>B<=b/\b<w.heap.size) (some ad) n.length n)(hb:Below w.heap.size w W):∀j y,n[j]? =some y->∃es,ENode.R W NoB es y/\∀i u,es[i]? =some u->W.cell? (ad.add (j*ENode.n+i))=some u:=by
 intro j y hy;obtain⟨ad2,e,hs,hx⟩:=(h.below hb (fun b hb=>hb.2)).2 (by have:=(List.getElem?_eq_some_iff.1 hy).1;omega);cases e;exact hx j y hy
theorem not_part(N:Nat)(h:PartOk .cmp 221 N):PartOk (.nots 0) 129 N:=by
 intro w g gb ws res hN hr hR;have HS:=q_ h;have HNN:=q_ hN;have hlen:=hr.len;have hg:=hr.glt;have hgb:=hr.lt;have R0:=q_ hr;have HR:=q_ hR;obtain⟨it2,I1,I2,I3,I4⟩:=info_parts info_node;clear h hN hr hR;go_enter Tryz.func129,Tryz.ntmps129;go_wp2_with fail;go_loopw [3] (fun x wr=>∃(j:Nat) (ws':List Ps.Tk),x= .int .i64 j/\OnlyG g w wr/\Rd wr g gb ws'/\Q_ (Ps.R (.nots j) ws' res)/\j+ws'.length<=ws.length) (fun x _=>ws.length+1-(intOf x).toNat)
 case atStart=>exact⟨0,ws,rfl,Turns.refl _ _,R0.o,HR,by omega⟩
 case round=>
  obtain⟨j,ws',rfl,ho,hr,hR,hsz⟩:=hrel;obtain⟨t,q,rfl⟩:=hr.ends.split;simp at hsz;have OR:=q_ ho;have K:=q_ (rtake_any wr g gb t q ⟨#[110,111,116]⟩ hr);rw[show(⟨#[110,111,116]⟩:ByteArray).data.toList=Ps.wNot from rfl] at K;clear ho hr R0 HR;go_wp2_with fail;refine K.o.mono ?_;rintro e w2 (⟨hw,rfl,hb,hr2⟩|⟨hw,rfl,ho2,hr2⟩)
  ·have B2:=q_ hb
   have R2:=q_ hr2;have O2:=q_ (OR.o.on hb);have HW:=q_ hw;clear hb hr2 K OR;have hB2:=O2.o.size;go_wp2_with fail;go_loopw [4,10] (fun v x wr=>∃i:Nat,x= .int .i64 i/\i<=j/\OwnE ENode 144 wr w2.heap.size NoB v (List.replicate i (Ps.opN 22 1))/\Below w2.heap.size w2 wr) (fun _ x _=>j-(intOf x).toNat)
   case atStart=>exact⟨0,rfl,by omega,OwnE.nil (fun b hb=>hb.elim),Below.refl _ _⟩
   case round=>
    obtain⟨i,rfl,hi,hown,hbel⟩:=hrel;have OB:=q_ hown;have BB:=q_ hbel;clear hown hbel;by_cases hlt:i<j
    ·have q1:decide ((i:Int)<(j:Int))=true:=by simp;omega
     go_wp2_with (refine wpList_append_E rfl (.tmp 12) (.tmp 14) _ rfl it2 (.agg #[.int .i64 0,.int .i64 0,.string ⟨#[]⟩,.int .i64 0,.string ⟨#[]⟩,.int .i64 0,.int .i64 0,.int .i64 0,.int .i64 0,.int .i64 0]) 96 Tryz.underlying29 I1 I2 I3 I4 rfl rfl (OB.o.alloc _) ⟨wr.heap.size,0,none⟩ 1 1 [Ps.opN 22 1] rfl rfl (news_one (cs:=[.int .i64 22,.int .i64 1,.string ⟨#[]⟩,.int .i64 0,.string ⟨#[]⟩,.int .i64 0,.int .i64 0,.int .i64 0,.int .i64 0,.int .i64 0]) ⟨rfl,opN_ok (by unfold I64;omega) (by unfold I64;omega)⟩ (fun b hb=>hb.elim)) (by simp;omega) (by omega) (by have:=BB.o.size;simp;omega) ?_;intro o4 w4 hown4 hb4 hg4 _;have O4:=q_ hown4;have B4:=q_ ((BB.o.alloc BB.o.size (.cells #[.int .i64 22,.int .i64 1,.string ⟨#[]⟩,.int .i64 0,.string ⟨#[]⟩,.int .i64 0,.int .i64 0,.int .i64 0,.int .i64 0,.int .i64 0] 144)).trans hb4);clear hown4 hb4 hg4);go_roundw
     case rel=>exact⟨i+1,by go_num,by omega,by rw[List.replicate_succ'];exact O4.o,B4.o⟩
     case measure=>simp[intOf];omega
    ·obtain rfl:i=j:=by omega
     have q1:decide ((i:Int)<(i:Int))=false:=by simp
     have R3:=q_ (R2.o.below BB.o);have O3:=q_ (O2.o.on BB.o);have hql:(t::q).length<=N:=by have:=HNN.o;simp;omega
     have hs3:=BB.o.size;cases hR.o with
     |not1 h _=>rw[HW.o] at h;cases h
     |not0 _ hR1=>
      go_wp2_with fail;refine(HS.o wr g gb (t::q) _ hql R3.o hR1).mono ?_
      rintro e w4 hp;obtain⟨ho,l,c,rfl⟩:=hp.bad;have O4:=q_ (onlyG_tr O3.o ho);clear hp ho;unfold panB;go_wp2;exact⟨rfl,O4.o,_,_,rfl⟩
     | @not2 _ _ _ n r2 _ hR1=>
       obtain⟨z1,z2,z3,-⟩:=hR1.size trivial _ _ rfl;simp[Ps.made] at z1;go_wp2_with fail;refine(HS.o wr g gb (t::q) _ hql R3.o hR1).mono ?_
       rintro e w4 hp;obtain⟨ho,⟨ad,c,rfl,hnc,hcm,hl⟩,hr⟩:=hp.okd;simp only at hnc hl hr;have O4:=q_ (onlyG_tr O3.o ho);have R4:=q_ hr;have A4:=q_ (OB.o.reader ho (fun b hb=>hb.elim) (Nat.lt_of_lt_of_le hg hB2));have KEY:=q_ (nodes_key hl (Below.refl _ w4));have hs4:=ho.size;clear hp ho hr hl hR hR1;go_wp2_with (refine wpList_append_E rfl (.tmp 17) (.tmp 19) _ rfl it2 (.agg #[.int .i64 0,.int .i64 0,.string ⟨#[]⟩,.int .i64 0,.string ⟨#[]⟩,.int .i64 0,.int .i64 0,.int .i64 0,.int .i64 0,.int .i64 0]) 96 Tryz.underlying29 I1 I2 I3 I4 rfl rfl A4.o ad n.length c n rfl rfl KEY.o (by simp;omega) (by omega) (by omega) ?_;intro o5 w5 hown5 hb5 hg5 _;have O5:=q_ hown5;have B5:=q_ hb5;have G5:=q_ hg5;clear hown5 hb5 hg5);go_ret;obtain⟨ad,c,e,k1,k2,k3⟩:=OwnE.nodes O5.o (by simp;omega) (by simp;omega);refine⟨O4.o.grownO (fun b hb h=> ?_) G5.o,⟨ad,c,e,k1,k2,k3.wide (fun b hb=>⟨Nat.le_trans hB2 hb.1,hb.2⟩)⟩,R4.o.below_ B5.o (Nat.lt_of_lt_of_le hg hB2) (Nat.lt_of_lt_of_le hgb hB2)⟩;have:=(A4.o.own_lt hb).1;omega
  ·have R2:=q_ hr2
   have O2:=q_ (onlyG_tr OR.o ho2);clear hr2 ho2 OR K;cases hR.o with
   |not0 h _=>rw[hw] at h;cases h
   |not2 h _=>rw[hw] at h;cases h
   |not1 _ hR1=>
    have HR1:=q_ hR1;clear hR1 hR;go_wp2_with fail;go_roundw
    case rel=>exact⟨j+1,q,by go_num,O2.o,R2.o,HR1,by omega⟩
    case measure=>simp[intOf];omega
theorem compare_part(N:Nat)(h:PartOk (.bin 2) 250 N):PartOk .cmp 221 N:=by
 intro w g gb ws res hN hr hR;have HS:=q_ h;have HNN:=q_ hN;have hlen:=hr.len;have hg:=hr.glt;have hgb:=hr.lt;have R0:=q_ hr;clear h hN hr
 have hcs:(res=none/\Ps.R (.bin 2) ws none)\/∃a t r,Ps.R (.bin 2) ws (some (a,t::r))/\((Ps.cmpI t<0/\res=some (a,t::r))\/(0<=Ps.cmpI t/\((Ps.R (.bin 2) r none/\res=none)\/∃b r2,Ps.R (.bin 2) r (some (b,r2))/\res=some (Ps.opN (Ps.cmpI t) 2::(a++b),r2)))):=by
  cases hR with
  |cmp0 h=>exact .inl ⟨rfl,h⟩
  |cmp1 h h2=>exact .inr ⟨_,_,_,h,.inl ⟨h2,rfl⟩⟩
  |cmp2 h h2 h3=>exact .inr ⟨_,_,_,h,.inr ⟨h2,.inl ⟨h3,rfl⟩⟩⟩
  |cmp3 h h2 h3=>exact .inr ⟨_,_,_,h,.inr ⟨h2,.inr ⟨_,_,h3,rfl⟩⟩⟩
 clear hR;go_enter Tryz.func221,Tryz.ntmps221;go_wp2_with fail;rcases hcs with⟨rfl,hR⟩|⟨a,t,r,hR,hcs⟩
 ·refine(HS.o w g gb ws _ HNN.o R0.o hR).mono ?_
  rintro e w1 hp;obtain⟨ho,l,c,rfl⟩:=hp.bad;have O1:=q_ ho;clear hp ho hR;unfold panB;go_wp2;exact⟨rfl,O1.o,_,_,rfl⟩
 ·obtain⟨z1,z2,z3,-⟩:=hR.size trivial _ _ rfl
  simp[Ps.made,Ps.eats] at z1 z2;refine(HS.o w g gb ws _ HNN.o R0.o hR).mono ?_
  rintro e w1 hp;obtain⟨ho,⟨ad,c,rfl,hnc,hcm,hl⟩,hr⟩:=hp.okd;simp only at hnc hl hr;have O1:=q_ ho;have R1:=q_ hr;have L1:=q_ hl;have HCS:=q_ hcs;obtain⟨o,m,cc,hgb1,hlt,hmc,hccm,hm⟩:=hr.at_;obtain⟨pt,pa,pb,pc,pd,pe,l,co,hpx,e0,e1,e2,e3,e4,e5,e6,e7,e8,e9,e10,hrg⟩:=hlt.head_;have HRG:=q_ hrg;have LT:=q_ hlt;have GB1:=q_ hgb1;have c0:w1.cell? ⟨g,0,none⟩=some (.slice (some ⟨gb,o,none⟩) m cc):=hgb1.cell 0;have hmlen:=hlt.1;simp at hmlen;have hm1:0<m:=by omega
  clear hp ho hr hl hlt hrg hpx e0 e1 e2 e3 e4 e5 e6 e7 e8 e9 e10 hgb1 hcs hR;go_wp2_with (refine wpList_load_mid rfl 137 (.tmp 11) rfl gb o rfl _ _ HRG.o Tryz.underlying137 rfl (by kernel_rfl) ?_);refine(compares_any t _ _ _ _ _ _ _ _ _ w1).mono ?_
  rintro e w2 ⟨rfl,hb2⟩;have hs1:=O1.o.size;have R2:=q_ (R1.o.below hb2);have O2:=q_ (O1.o.on hb2);have L2:=q_ (L1.o.below hb2 (fun b hb=>hb.2));have LT2:=q_ (LT.o.below hb2 (fun b hb=>by rw[hb];exact R1.o.lt));have hs2:=hb2.size;have B12:=q_ hb2;clear hb2 c0 HRG LT;rcases HCS.o with⟨hc,rfl⟩|⟨hc,hcs⟩
  ·have q1:decide (Ps.cmpI t<0)=true:=by simpa using hc
   go_wp2_with fail;go_ret;exact⟨O2.o,⟨ad,c,rfl,hnc,hcm,L2.o.wide (fun b hb=>⟨hb.1,Nat.lt_of_lt_of_le hb.2 hs2⟩)⟩,R2.o⟩
  ·have q1:decide (Ps.cmpI t<0)=false:=by simpa using hc
   have hk:=Ps.cmp_ne hc;have h2:=R2.o.two hk;have hmm:2<=m:=by simp at h2;omega
   have hc1:¬cc=1:=by omega
   have GB2:=q_ (GB1.o.below B12.o GB1.o.lt);have c0:=GB2.o.cell;have f0:=GB2.o.frozen;have HK:=q_ hk
   have hIop:I64 (Ps.cmpI t):=by
    unfold Ps.cmpI I64
    repeat' split
    all_goals omega
   have HIO:=q_ hIop;clear hk h2 hIop GB1;go_upto_region 6 with fail;have ho3:OnlyG g w2 (w2.setCell ⟨g,0,none⟩ (.slice (some ⟨gb,o+11,none⟩) (m-1) (cc-1))):=(Turns.refl _ _:OnlyG g w2 w2).grown (fun _=>rfl) (grown_set _ _ _ _);have R3:=q_ (R2.o.next HK.o LT2.o hmc hccm hm (GB2.o.one_set _) ho3);have O3:=q_ (onlyG_tr O2.o ho3);have L3:=q_ (ho3.lat L2.o (fun b hb=>⟨by omega,by have:=hb.1;omega⟩));have hs3:=ho3.size;clear ho3 c0 f0 GB2 R2 O2 L2 LT2;generalize w2.setCell ⟨g,0,none⟩ (.slice (some ⟨gb,o+11,none⟩) (m-1) (cc-1))=w3 at*;have hrl:r.length<=N:=by have:=HNN.o;omega
   rcases hcs with⟨hR,rfl⟩|⟨b,r2,hR,rfl⟩
   ·go_wp2_with fail
    refine(HS.o w3 g gb r _ hrl R3.o hR).mono ?_
    rintro e w4 hp;obtain⟨ho,l,c,rfl⟩:=hp.bad;have O4:=q_ (onlyG_tr O3.o ho);clear hp ho hR;unfold panB;go_wp2;exact⟨rfl,O4.o,_,_,rfl⟩
   ·obtain⟨y1,y2,y3,-⟩:=hR.size trivial _ _ rfl
    simp[Ps.made] at y1;go_wp2_with fail;refine(HS.o w3 g gb r _ hrl R3.o hR).mono ?_
    rintro e w4 hp;obtain⟨ho,⟨ad2,c2,rfl,hnc2,hcm2,hl2⟩,hr2⟩:=hp.okd;simp only at hnc2 hl2 hr2;have O4:=q_ (onlyG_tr O3.o ho);have R4:=q_ hr2;have hs4:=ho.size;have L4:=q_ ((ho.lat L3.o (fun b hb=>⟨by omega,by have:=hb.1;omega⟩)).wide (S':=fun b=>w.heap.size<=b/\b<w4.heap.size) (fun b hb=>⟨hb.1,by omega⟩));have M4:=q_ (hl2.wide (S':=fun b=>w.heap.size<=b/\b<w4.heap.size) (fun b hb=>⟨by omega,hb.2⟩));have K2:=q_ (two_join w4 (Ps.cmpI t) HIO.o a b ad ad2 c c2 _ (fun q hq=>hq.2) L4.o M4.o (by omega));clear hp ho hr2 hl2 hR;go_wp2_with fail;refine K2.o.mono ?_;rintro e w5 ⟨⟨ad5,c5,rfl,k1,k2,k3⟩,hb5⟩;have K3:=q_ k3;have R5:=q_ (R4.o.below hb5);have O5:=q_ (O4.o.on hb5);clear k3 hb5;go_wp2;go_ret;exact⟨O5.o,⟨ad5,c5,by simp,k1,k2,K3.o.wide (fun b hb=>⟨by omega,hb.2⟩)⟩,R5.o⟩
theorem callN_ok{n:Nat}(h:name.length<=100000)(hn:n<=1048576):(Ps.callN name n).ok64:=by
 refine⟨?_,?_,?_,?_,?_⟩<;>simp[Ps.callN,Ps.E0,Ps.path0,I64,M.Path.ok64,ByteArray.size]<;>omega
theorem OwnE.bump{n:Nat}{v:Value}{acc:List M.Node}(h:OwnE ENode 144 w B NoB v (Ps.callN name n::acc))(hname:name.length<=100000)(hn:n+1<=1048576):
 ∃ga cap cur,v= .slice (some ⟨ga,0,none⟩) (acc.length+1) cap/\B<=ga/\Blk w ga 144 cur/\cur[1]? =some (.int .i64 (n:Nat))/\OwnE ENode 144 (w.setCell ⟨ga,1,none⟩ (.int .i64 ((n:Nat)+1))) B NoB v (Ps.callN name (n+1)::acc):=by
 obtain⟨cs,⟨hlen,hr⟩,he⟩:=h.row;rcases hr with⟨-,h0⟩|⟨ga,cap,cur,rfl,hB,hh,hnc,hcm,hcs,htake⟩
 ·simp at h0
 obtain⟨es,⟨rfl,-⟩,hc0⟩:=he 0 _ rfl;have h1:cs[1]? =some (.int .i64 (n:Nat)):=hc0 1 _ rfl;have hl10:cs.length=(acc.length+1)*10:=hlen
 have hcur:cur[1]? =some (.int .i64 (n:Nat)):=by
  rw[<-htake,List.getElem?_take] at h1;split at h1
  ·simpa using h1
  ·cases h1
 refine⟨ga,cap,cur,rfl,hB,hh,hcur,⟨cs.set 1 (.int .i64 ((n:Nat)+1)),⟨by rw[List.length_set];exact hlen,.inr ⟨ga,cap,cur.setIfInBounds 1 (.int .i64 ((n:Nat)+1)),rfl,hB,Blk.set_ (cs:=cur) hh 1 _,hnc,hcm,by simpa using hcs,?_⟩⟩,fun j x hx=> ?_⟩,fun g hg hs=>hs,fun b hb=>hb.elim⟩
 ·rw[<-htake]
  simp;rw[List.take_set]
 ·cases j with
  |zero=>
   simp at hx;subst hx;refine⟨_,⟨rfl,callN_ok hname hn⟩,fun i u hu=> ?_⟩;by_cases hi:i=1
   ·subst hi
    have:u= .int .i64 ((n:Nat)+1):=by
     have h2:some (Value.int .i64 ((n+1:Nat):Int))=some u:=hu;injection h2 with h2;rw[<-h2];rfl
    subst this;rw[List.getElem?_set];simp;omega
   ·have h2:=hc0 i u (by
     rw[<-hu];rcases i with _|_|i
     ·rfl
     ·exact absurd rfl hi
     ·rfl)
    rw[List.getElem?_set];rw[if_neg (by omega)];exact h2
  |succ j=>
   obtain⟨es,hr,hi⟩:=he (j+1) x (by simpa using hx);refine⟨es,hr,fun i u hu=> ?_⟩;rw[List.getElem?_set,if_neg (by show¬1=(j+1)*10+i;omega)];exact hi i u hu
def CallR(name:List UInt8)(ws:List Ps.Tk)(res:Ps.Res):Prop:=∃t r,ws=t::r/\((Ps.isW t [41]=true/\res=some ([Ps.callN name 0],r))\/(Ps.isW t [41]=false/\Ps.R (.arg name [] 0) ws res))
theorem call_part(N:Nat)(h:PartOk (.bin 0) 20 N)(w:World)(g gb:Nat)(ws:List Ps.Tk)(res:Ps.Res)(name:List UInt8)(hname:name.length<=100000)(hN:ws.length<=N)(hr:Rd w g gb ws)(hR:CallR name ws res):
 Calls Tryz.prog 278 #[.pointer (some ⟨g,0,none⟩),.string ⟨name.toArray⟩] w fun e w'=>ParseP w g gb res e w':=by
 have HS:=q_ h;have HNN:=q_ hN;have hlen:=hr.len;have hg:=hr.glt;have hgb:=hr.lt;have hNm:=q_ hname;obtain⟨it2,I1,I2,I3,I4⟩:=info_parts info_node;obtain⟨t,r,rfl,hcs⟩:=hR;have hlen2:r.length+1<=100000:=hlen;have O0:=q_ (OwnE.one (E:=ENode) (T:=144) (w:=w) (B:=w.heap.size) (S:=NoB) (x:=Ps.callN name 0) #[.int .i64 23,.int .i64 0,.string ⟨name.toArray⟩,.int .i64 0,.string ⟨#[]⟩,.int .i64 0,.int .i64 0,.int .i64 0,.int .i64 0,.int .i64 0] ⟨rfl,callN_ok hname (by omega)⟩ (n_) (fun b hb=>hb.elim));have B0:=q_ ((Below.refl _ w).alloc (n_) (.cells #[.int .i64 23,.int .i64 0,.string ⟨name.toArray⟩,.int .i64 0,.string ⟨#[]⟩,.int .i64 0,.int .i64 0,.int .i64 0,.int .i64 0,.int .i64 0] 144));have R0:=q_ (hr.below B0.o);have K:=q_ (rtake_any _ g gb t r ⟨#[41]⟩ R0.o);rw[show(⟨#[41]⟩:ByteArray).data.toList=[41] from rfl] at K;clear h hN hr hname;go_enter Tryz.func278,Tryz.ntmps278;go_wp2_with fail;refine K.o.mono ?_;rintro e w2 (⟨hw,rfl,hb,hr2⟩|⟨hw,rfl,ho2,hr2⟩);rotate_left
 ·obtain rfl:res=some ([Ps.callN name 0],r):=by
   rcases hcs with⟨_,h⟩|⟨h,_⟩
   ·exact h
   ·rw[hw] at h;cases h
  have O2:=q_ (onlyG_tr (onlyG_below B0.o) ho2);have R2:=q_ hr2;have A2:=q_ (O0.o.reader ho2 (fun b hb=>hb.elim) hg);clear ho2 hr2 hcs K;go_wp2_with fail;go_ret;exact⟨O2.o,OwnE.nodes A2.o (by simp) (by simp),R2.o⟩
 ·obtain hR:Ps.R (.arg name [] 0) (t::r) res:=by
   rcases hcs with⟨h,_⟩|⟨_,h⟩
   ·rw[hw] at h;cases h
   ·exact h
  have HR:=q_ hR;have O2:=q_ ((onlyG_below B0.o:OnlyG g w _).on hb);have R2:=q_ hr2;have A2:=q_ (O0.o.below hb);clear hb hr2 hcs K hR hw;go_wp2_with fail;go_loopw [5] (fun v wr=>∃(acc:Ps.Ns) (n:Nat) (ws':List Ps.Tk),OwnE ENode 144 wr w.heap.size NoB v (Ps.callN name n::acc)/\OnlyG g w wr/\Rd wr g gb ws'/\Q_ (Ps.R (.arg name acc n) ws' res)/\acc.length+ws'.length<=(t::r).length/\n<=acc.length) (fun v _=>200000-plenOf v)
  case atStart=>exact⟨[],0,t::r,A2.o,O2.o,R2.o,HR,by simp,by simp⟩
  case round=>
   clear O0 B0 R0 A2 O2 R2 HR;obtain⟨acc,n,ws',hown,ho,hr,hR,hsz,hna⟩:=hrel;obtain⟨xa,xc,rfl⟩:=hown.shape;have OR:=q_ ho;have RR:=q_ hr;have OA:=q_ hown;have hsr:=ho.size;have hwl:ws'.length<=N:=by have:=HNN.o;omega
   clear hown ho hr
   have hcs:(res=none/\Ps.R (.bin 0) ws' none)\/∃x t2 r2,Ps.R (.bin 0) ws' (some (x,t2::r2))/\((Ps.isW t2 [41]=true/\res=some (Ps.callN name (n+1)::(acc++x),r2))\/(Ps.isW t2 [41]=false/\((Ps.isW t2 [44]=false/\res=none)\/(Ps.isW t2 [44]=true/\Ps.R (.arg name (acc++x) (n+1)) r2 res)))):=by
    cases hR.o with
    |arg0 h=>exact .inl ⟨rfl,h⟩
    |arg1 h h2=>exact .inr ⟨_,_,_,h,.inl ⟨h2,rfl⟩⟩
    |arg2 h h2 h3=>exact .inr ⟨_,_,_,h,.inr ⟨h2,.inl ⟨h3,rfl⟩⟩⟩
    |arg3 h h2 h3 h4=>exact .inr ⟨_,_,_,h,.inr ⟨h2,.inr ⟨h3,h4⟩⟩⟩
   clear hR;go_wp2_with fail;rcases hcs with⟨rfl,hR⟩|⟨x,t2,r2,hR,hcs⟩
   ·refine(HS.o wr g gb ws' _ hwl RR.o hR).mono ?_
    rintro e w4 hp;obtain⟨ho,l,c,rfl⟩:=hp.bad;have O4:=q_ (onlyG_tr OR.o ho);clear hp ho hR;unfold panB;go_wp2;exact⟨rfl,O4.o,_,_,rfl⟩
   ·obtain⟨z1,z2,z3,-⟩:=hR.size trivial _ _ rfl
    simp[Ps.made] at z1;simp at hsz;refine(HS.o wr g gb ws' _ hwl RR.o hR).mono ?_
    rintro e w4 hp;obtain⟨ho,⟨ad,c,rfl,hnc,hcm,hl⟩,hr4⟩:=hp.okd;simp only at hnc hl hr4;have O4:=q_ (onlyG_tr OR.o ho);have R4:=q_ hr4;have A4:=q_ (OA.o.reader ho (fun b hb=>hb.elim) hg);have KEY:=q_ (nodes_key hl (Below.refl _ w4));have hs4:=ho.size;have HCS:=q_ hcs;clear hp ho hr4 hl hR OR RR OA hcs;go_upto_region 5 with(at_builtin;(refine wpList_append_E rfl (.tmp 12) (.tmp 14) _ rfl it2 (.agg #[.int .i64 0,.int .i64 0,.string ⟨#[]⟩,.int .i64 0,.string ⟨#[]⟩,.int .i64 0,.int .i64 0,.int .i64 0,.int .i64 0,.int .i64 0]) 96 Tryz.underlying29 I1 I2 I3 I4 rfl rfl A4.o ad x.length c x rfl rfl KEY.o (by simp;omega) (by omega) (by omega) ?_;intro o5 w5 hown5 hb5 hg5 _;have A5:=q_ hown5;have B5:=q_ hb5;have G5:=q_ hg5;clear hown5 hb5 hg5))
    have O5:=q_ (show OnlyG g w w5 from O4.o.grownO (fun b hb h=>by have:=(A4.o.own_lt hb).1;omega) G5.o);have R5:=q_ (R4.o.below_ B5.o hg hgb);obtain⟨ga,cap,cur,rfl,hga,hcur,hc1,hown6⟩:=OwnE.bump A5.o hNm.o (by omega);have A6:=q_ hown6;have z5:=hcur.cell;have f5:=hcur.frozen;have hg6:w5.grownBy (w5.setCell ⟨ga,1,none⟩ (.int .i64 ((n:Nat)+1))) (some ga):=grown_set _ _ _ _;have hb6:Below w.heap.size w5 (w5.setCell ⟨ga,1,none⟩ (.int .i64 ((n:Nat)+1))):=below_grown hg6 (by have:=O5.o.size;omega) hga;have O6:=q_ (O5.o.grown (r:=ga) (fun h=>by omega) hg6);have R6:=q_ (R5.o.below_ hb6 hg hgb);have hwr:IntKind.i64.wrap ((n:Nat)+1)=((n:Nat):Int)+1:=by rw[IntKind.wrap_i64];omega
    have c1:w5.cell? ⟨ga,1,none⟩=some (.int .i64 (n:Nat)):=(z5 1).trans hc1;have hlx:0<acc.length+x.length+1:=by omega
    clear hown6 hg6 hb6 A4 B5 G5 KEY R4 O4 hcur;go_upto_region 6 with fail;generalize w5.setCell ⟨ga,1,none⟩ (.int .i64 ((n:Nat)+1))=w6 at*;have K:=q_ (rtake_any w6 g gb t2 r2 ⟨#[41]⟩ R6.o);rw[show(⟨#[41]⟩:ByteArray).data.toList=[41] from rfl] at K;clear z5 f5 c1 hc1 O5 R5 A5;have hs6:=O6.o.size;go_wp2_with fail;refine K.o.mono ?_;rintro e w7 (⟨hw,rfl,hb,hr7⟩|⟨hw,rfl,ho7,hr7⟩);rotate_left
    ·obtain rfl:res=some (Ps.callN name (n+1)::(acc++x),r2):=by
      rcases HCS.o with⟨_,h⟩|⟨h,_⟩
      ·exact h
      ·rw[hw] at h;cases h
     have O7:=q_ (onlyG_tr O6.o ho7);have A7:=q_ (A6.o.reader ho7 (fun b hb=>hb.elim) hg);have R7:=q_ hr7;clear ho7 hr7 K HCS;go_wp2_with fail;go_ret;obtain⟨ad,c,e,k1,k2,k3⟩:=OwnE.nodes A7.o (by simp) (by simp;omega);exact⟨O7.o,⟨ad,c,by simpa using e,k1,k2,k3⟩,R7.o⟩
    ·have hcs2:(Ps.isW t2 [44]=false/\res=none)\/(Ps.isW t2 [44]=true/\Ps.R (.arg name (acc++x) (n+1)) r2 res):=by
      rcases HCS.o with⟨h,_⟩|⟨_,h⟩
      ·rw[hw] at h;cases h
      ·exact h
     have O7:=q_ (O6.o.on hb);have A7:=q_ (A6.o.below hb);have KW:=q_ (rwant_any w7 g gb t2 r2 ⟨#[44]⟩ hr7);rw[show(⟨#[44]⟩:ByteArray).data.toList=[44] from rfl] at KW;clear hb hr7 K HCS hw O6 A6 R6;go_wp2_with fail;refine KW.o.mono ?_;rintro e w8 (⟨hw,⟨l,c,rfl⟩,hb8⟩|⟨hw,rfl,ho8,hr8⟩)
     ·obtain rfl:res=none:=by
       rcases hcs2 with⟨_,h⟩|⟨h,_⟩
       ·exact h
       ·rw[hw] at h;cases h
      have O8:=q_ (O7.o.on hb8);clear hb8 KW hcs2;unfold panB;go_wp2;exact⟨rfl,O8.o,_,_,rfl⟩
     ·have HR8:=q_ (show Ps.R (.arg name (acc++x) (n+1)) r2 res from by
       rcases hcs2 with⟨h,_⟩|⟨_,h⟩
       ·rw[hw] at h;cases h
       ·exact h)
      have O8:=q_ (onlyG_tr O7.o ho8);have A8:=q_ (A7.o.reader ho8 (fun b hb=>hb.elim) hg);have R8:=q_ hr8;clear ho8 hr8 KW hcs2;go_wp2_with fail;go_roundw
      case rel=>exact⟨acc++x,n+1,r2,by simpa using A8.o,O8.o,R8.o,HR8,by simp;omega,by simp;omega⟩
      case measure=>simp[plenOf];omega
theorem numV_rng{l:List UInt8}:0<=P.numV l/\P.numV l<=2147483647:=by
 unfold P.numV;split
 ·rename_i h
  unfold P.numOk at h;simp only[Bool.and_eq_true,decide_eq_true_eq] at h;omega
 ·omega
theorem numW_range(o l:List UInt8):0<=Ad.numW o l/\Ad.numW o l<=2147483647:=by
 unfold Ad.numW;split
 ·exact numV_rng
 ·omega
theorem pathV_range(l:List UInt8)(i:Nat):0<=Ad.pathV l i/\Ad.pathV l i<=2147483647:=by
 have up:∀(v:Nat->Int) (k:Nat) (n:Int),(∀i,0<=v i/\v i<=2147483647)->0<=n/\n<=2147483647->∀i,0<=Ad.updP v k n i/\Ad.updP v k n i<=2147483647:=fun v k n hv hn i=>by
  unfold Ad.updP;split
  ·exact hn
  ·exact hv i
 unfold Ad.pathV Ad.pathTv Ad.pathUv;have h0:=up (fun _=>0) 1 (Ad.numW [91] (l.drop (min 3 l.length))) (fun _=>by omega) (numW_range _ _);split
 ·have h1:=up _ 5 1 (up _ 4 1 (up _ 3 _ (up _ 2 _ h0 (numW_range [45] (Ad.numS [91] [93] (l.drop (min 3 l.length),false)).1)) (numW_range [91] (Ad.numS [45] [] (Ad.numS [91] [93] (l.drop (min 3 l.length),false))).1)) (by omega)) (by omega)
  split
  ·exact up _ 5 _ (up _ 4 _ h1 (numW_range _ _)) (numW_range _ _) i
  ·exact h1 i
 ·exact h0 i
theorem leaf_ok{t:Ps.Tk}(ht:Ps.TokOk t)(h:Ps.leafOf t=some x):x.ok64:=by
 obtain⟨h1,h2,h3⟩:=ht;have p:=pathV_range t.text;unfold Ps.leafOf at h;split at h
 ·cases h
  refine⟨?_,?_,?_,?_,?_⟩<;>simp[Ps.E0,Ps.path0,I64,M.Path.ok64,ByteArray.size]<;>omega
 ·split at h
  ·cases h
   refine⟨?_,?_,?_,?_,?_⟩<;>simp[Ps.E0,Ps.path0,I64,M.Path.ok64,ByteArray.size]<;>omega
  ·split at h
   ·cases h
    have p1:=p 1;have p2:=p 2;have p3:=p 3;have p4:=p 4;have p5:=p 5;refine⟨?_,?_,?_,?_,?_⟩<;>simp[Ps.E0,Ps.pathT,I64,M.Path.ok64,ByteArray.size]<;>omega
   ·split at h
    ·cases h
     exact opN_ok (by unfold I64;omega) (by unfold I64;omega)
    ·split at h
     ·cases h
      exact opN_ok (by unfold I64;omega) (by unfold I64;omega)
     ·cases h
theorem leaf_nodes(cs:Array Value)(hx:x.ok64)(hc:cs.toList=x.cells)(hW:w.heap.size<=W.heap.size){k:Nat}(hk:W.heap.size=k):NodesR w.heap.size (.returned (.slice (some ⟨k,0,none⟩) 1 1)) (W.alloc (.cells cs 144)) [x]:=hk▸
 OwnE.nodes (n:=[x]) (OwnE.one (E:=ENode) (T:=144) (w:=W) (B:=w.heap.size) (S:=NoB) (x:=x) cs ⟨hc,hx⟩ hW (fun b hb=>hb.elim)) (by simp) (by simp)
theorem unit_part(N:Nat)(h:PartOk (.bin 0) 20 N):PartOk .unit 271 (N+1):=by
 intro w g gb ws res hN hr hR;obtain⟨t,r,rfl⟩:=hr.ends.split
 have hcs:(∃x,Ps.leafOf t=some x/\res=some ([x],r))\/(Ps.leafOf t=none/\((Ps.isW t [40]=true/\((Ps.R (.bin 0) r none/\res=none)\/∃n t2 r2,Ps.R (.bin 0) r (some (n,t2::r2))/\((Ps.isW t2 [41]=false/\res=none)\/(Ps.isW t2 [41]=true/\res=some (n,r2)))))\/(Ps.isW t [40]=false/\((Ps.nameOk t=false/\res=none)\/(Ps.nameOk t=true/\∃t2 r2,r=t2::r2/\((Ps.isW t2 [40]=false/\res=some ([Ps.nameN t.text],r))\/(Ps.isW t2 [40]=true/\CallR t.text r2 res))))))):=by
  cases hR with
  |leaf h=>exact .inl ⟨_,h,rfl⟩
  |par0 h h1 h2=>exact .inr ⟨h,.inl ⟨h1,.inl ⟨h2,rfl⟩⟩⟩
  |par1 h h1 h2 h3=>exact .inr ⟨h,.inl ⟨h1,.inr ⟨_,_,_,h2,.inl ⟨h3,rfl⟩⟩⟩⟩
  |par2 h h1 h2 h3=>exact .inr ⟨h,.inl ⟨h1,.inr ⟨_,_,_,h2,.inr ⟨h3,rfl⟩⟩⟩⟩
  |bad h h1 h2=>exact .inr ⟨h,.inr ⟨h1,.inl ⟨h2,rfl⟩⟩⟩
  |name h h1 h2 h3=>exact .inr ⟨h,.inr ⟨h1,.inr ⟨h2,_,_,rfl,.inl ⟨h3,rfl⟩⟩⟩⟩
  |call0 h h1 h2 h3 h4=>exact .inr ⟨h,.inr ⟨h1,.inr ⟨h2,_,_,rfl,.inr ⟨h3,_,_,rfl,.inl ⟨h4,rfl⟩⟩⟩⟩⟩
  |call1 h h1 h2 h3 h4 h5=>exact .inr ⟨h,.inr ⟨h1,.inr ⟨h2,_,_,rfl,.inr ⟨h3,_,_,rfl,.inr ⟨h4,h5⟩⟩⟩⟩⟩
 have HS:=q_ h;have HNN:=q_ hN;have HCS:=q_ hcs;have hlen:=hr.len;have hlen2:r.length+1<=100000:=hlen;have hg:=hr.glt;have hgb:=hr.lt;have HTK:=q_ (hr.ok t (List.mem_cons_self ..));obtain⟨o,m,c,hgb1,hlt,hmc,hcm,hm⟩:=hr.at_;obtain⟨pt,pa,pb,pc,pd,pe,l,co,hpx,e0,e1,e2,e3,e4,e5,e6,e7,e8,e9,e10,hrg⟩:=hlt.head_;have HRG:=q_ hrg;have HPX:=q_ hpx;have c0:w.cell? ⟨g,0,none⟩=some (.slice (some ⟨gb,o,none⟩) m c):=hgb1.cell 0;have hmlen:r.length+1=m:=hlt.1;have hm1:0<m:=by omega
 have B1:=q_ ((Below.refl _ w).alloc (n_) (.cells #[.int .i64 t.kind,.string ⟨t.text.toArray⟩,.int .i64 t.num,.string pt,.int .i64 pa,.int .i64 pb,.int .i64 pc,.int .i64 pd,.int .i64 pe,.int .i64 l,.int .i64 co] 137));have X1:=q_ (Blk.new w 137 #[.int .i64 t.kind,.string ⟨t.text.toArray⟩,.int .i64 t.num,.string pt,.int .i64 pa,.int .i64 pb,.int .i64 pc,.int .i64 pd,.int .i64 pe,.int .i64 l,.int .i64 co]);have R1:=q_ (hr.below B1.o);have GB1:=q_ (hgb1.alloc (.cells #[.int .i64 t.kind,.string ⟨t.text.toArray⟩,.int .i64 t.num,.string pt,.int .i64 pa,.int .i64 pb,.int .i64 pc,.int .i64 pd,.int .i64 pe,.int .i64 l,.int .i64 co] 137));have LT1:=q_ (hlt.below B1.o (fun b hb=>by rw[hb];exact hgb));clear h hN hcs hR hr hgb1 hlt hpx hrg e0 e1 e2 e3 e4 e5 e6 e7 e8 e9 e10;go_enter Tryz.func271,Tryz.ntmps271;go_upto_region 2 with(refine wpList_load_mid rfl 137 (.tmp 10) rfl gb o rfl _ _ HRG.o Tryz.underlying137 rfl (by kernel_rfl) ?_)
 have hz1:w.heap.size+1=(w.alloc (.cells #[.int .i64 t.kind,.string ⟨t.text.toArray⟩,.int .i64 t.num,.string pt,.int .i64 pa,.int .i64 pb,.int .i64 pc,.int .i64 pd,.int .i64 pe,.int .i64 l,.int .i64 co] 137)).heap.size:=by simp
 generalize w.alloc (.cells #[.int .i64 t.kind,.string ⟨t.text.toArray⟩,.int .i64 t.num,.string pt,.int .i64 pa,.int .i64 pb,.int .i64 pc,.int .i64 pd,.int .i64 pe,.int .i64 l,.int .i64 co] 137)=w1 at*;clear c0 HRG;have x1:=X1.o.cell;have OGB:OnlyG g w w1:=onlyG_below B1.o;have OG1:=q_ OGB;clear OGB;by_cases hk:t.kind=3
 ·have hlf:Ps.leafOf t=some ⟨7,0,⟨t.text.toArray⟩,0,Ps.path0⟩:=by unfold Ps.leafOf;rw[if_pos hk]
  obtain rfl:res=some ([⟨7,0,⟨t.text.toArray⟩,0,Ps.path0⟩],r):=by
   rcases HCS.o with⟨x,h,h2⟩|⟨h,-⟩
   ·rw[hlf] at h
    cases h;exact h2
   ·rw[hlf] at h
    cases h
  have HOK:=q_ (leaf_ok HTK.o hlf);have HC:=q_ (show(#[.int .i64 7,.int .i64 0,.string ⟨t.text.toArray⟩,.int .i64 0,.string ⟨#[]⟩,.int .i64 0,.int .i64 0,.int .i64 0,.int .i64 0,.int .i64 0]:Array Value).toList=(⟨7,0,⟨t.text.toArray⟩,0,Ps.path0⟩:M.Node).cells from rfl);have hk0:t.kind≠0:=by omega
  have h2:=R1.o.two hk0;have hmm:2<=m:=by simp at h2;omega
  have hc1:¬c=1:=by omega
  have q1:(t.kind==3)=true:=by rw[hk];rfl
  have c0:=GB1.o.cell;have f0:=GB1.o.frozen;have ho3:OnlyG g w1 (w1.setCell ⟨g,0,none⟩ (.slice (some ⟨gb,o+11,none⟩) (m-1) (c-1))):=(Turns.refl _ _:OnlyG g w1 w1).grown (fun _=>rfl) (grown_set _ _ _ _);have R3:=q_ (R1.o.next hk0 LT1.o hmc hcm hm (GB1.o.one_set _) ho3);have O3:=q_ (onlyG_tr OG1.o ho3);have X3:=X1.o.far (p:=⟨g,0,none⟩) (by simp;omega) (.slice (some ⟨gb,o+11,none⟩) (m-1) (c-1));have x3:=X3.cell;clear ho3 h2 hk hlf HCS;go_wp2_with fail;go_ret;exact⟨O3.o.on ((Below.refl _ _).alloc (n_) _),leaf_nodes _ HOK.o HC.o O3.o.size (by simp),R3.o.below ((Below.refl _ _).alloc (n_) _)⟩
 by_cases hk:t.kind=2
 ·have hlf:Ps.leafOf t=some ⟨8,0,Ps.E0,t.num,Ps.path0⟩:=by unfold Ps.leafOf;rw[if_neg (show¬t.kind=3 by omega)];rw[if_pos hk]
  obtain rfl:res=some ([⟨8,0,Ps.E0,t.num,Ps.path0⟩],r):=by
   rcases HCS.o with⟨x,h,h2⟩|⟨h,-⟩
   ·rw[hlf] at h
    cases h;exact h2
   ·rw[hlf] at h
    cases h
  have HOK:=q_ (leaf_ok HTK.o hlf);have HC:=q_ (show(#[.int .i64 8,.int .i64 0,.string ⟨#[]⟩,.int .i64 t.num,.string ⟨#[]⟩,.int .i64 0,.int .i64 0,.int .i64 0,.int .i64 0,.int .i64 0]:Array Value).toList=(⟨8,0,Ps.E0,t.num,Ps.path0⟩:M.Node).cells from rfl);have hk0:t.kind≠0:=by omega
  have h2:=R1.o.two hk0;have hmm:2<=m:=by simp at h2;omega
  have hc1:¬c=1:=by omega
  have q1:(t.kind==2)=true:=by rw[hk];rfl
  have q2:(t.kind==3)=false:=by rw[beq_eq_false_iff_ne];omega
  have c0:=GB1.o.cell;have f0:=GB1.o.frozen;have ho3:OnlyG g w1 (w1.setCell ⟨g,0,none⟩ (.slice (some ⟨gb,o+11,none⟩) (m-1) (c-1))):=(Turns.refl _ _:OnlyG g w1 w1).grown (fun _=>rfl) (grown_set _ _ _ _);have R3:=q_ (R1.o.next hk0 LT1.o hmc hcm hm (GB1.o.one_set _) ho3);have O3:=q_ (onlyG_tr OG1.o ho3);have X3:=X1.o.far (p:=⟨g,0,none⟩) (by simp;omega) (.slice (some ⟨gb,o+11,none⟩) (m-1) (c-1));have x3:=X3.cell;clear ho3 h2 hk hlf HCS;go_wp2_with fail;go_ret;exact⟨O3.o.on ((Below.refl _ _).alloc (n_) _),leaf_nodes _ HOK.o HC.o O3.o.size (by simp),R3.o.below ((Below.refl _ _).alloc (n_) _)⟩
 by_cases hk:t.kind=4
 ·have hlf:Ps.leafOf t=some ⟨11,0,Ps.E0,0,Ps.pathT t⟩:=by unfold Ps.leafOf;rw[if_neg (show¬t.kind=3 by omega)];rw[if_neg (show¬t.kind=2 by omega)];rw[if_pos hk]
  obtain rfl:res=some ([⟨11,0,Ps.E0,0,Ps.pathT t⟩],r):=by
   rcases HCS.o with⟨x,h,h2⟩|⟨h,-⟩
   ·rw[hlf] at h
    cases h;exact h2
   ·rw[hlf] at h
    cases h
  have HOK:=q_ (leaf_ok HTK.o hlf);have HC:=q_ (show(#[.int .i64 11,.int .i64 0,.string ⟨#[]⟩,.int .i64 0,.string pt,.int .i64 pa,.int .i64 pb,.int .i64 pc,.int .i64 pd,.int .i64 pe]:Array Value).toList=(⟨11,0,Ps.E0,0,Ps.pathT t⟩:M.Node).cells from(by have:=HPX.o hk;show([.int .i64 11,.int .i64 0,.string ⟨#[]⟩,.int .i64 0]:List Value)++[.string pt,.int .i64 pa,.int .i64 pb,.int .i64 pc,.int .i64 pd,.int .i64 pe]=_;rw[this];rfl));have hk0:t.kind≠0:=by omega
  have h2:=R1.o.two hk0;have hmm:2<=m:=by simp at h2;omega
  have hc1:¬c=1:=by omega
  have q1:(t.kind==4)=true:=by rw[hk];rfl
  have q2:(t.kind==3)=false:=by rw[beq_eq_false_iff_ne];omega
  have q3:(t.kind==2)=false:=by rw[beq_eq_false_iff_ne];omega
  have c0:=GB1.o.cell;have f0:=GB1.o.frozen;have ho3:OnlyG g w1 (w1.setCell ⟨g,0,none⟩ (.slice (some ⟨gb,o+11,none⟩) (m-1) (c-1))):=(Turns.refl _ _:OnlyG g w1 w1).grown (fun _=>rfl) (grown_set _ _ _ _);have R3:=q_ (R1.o.next hk0 LT1.o hmc hcm hm (GB1.o.one_set _) ho3);have O3:=q_ (onlyG_tr OG1.o ho3);have X3:=X1.o.far (p:=⟨g,0,none⟩) (by simp;omega) (.slice (some ⟨gb,o+11,none⟩) (m-1) (c-1));have x3:=X3.cell;clear ho3 h2 hk hlf HCS;go_wp2_with fail;go_ret;exact⟨O3.o.on ((Below.refl _ _).alloc (n_) _),leaf_nodes _ HOK.o HC.o O3.o.size (by simp),R3.o.below ((Below.refl _ _).alloc (n_) _)⟩
 have q3:(t.kind==3)=false:=by rw[beq_eq_false_iff_ne];omega
 have q2:(t.kind==2)=false:=by rw[beq_eq_false_iff_ne];omega
 have q4:(t.kind==4)=false:=by rw[beq_eq_false_iff_ne];omega
 have HNK:=q_ (show¬t.kind=3/\¬t.kind=2/\¬t.kind=4 by omega);have hts:t.text.length<=1048576:=by have:=HTK.o.1;omega
 clear GB1 LT1 HPX;have K:=q_ (rtake_any w1 g gb t r ⟨#[116,114,117,101]⟩ R1.o);rw[show(⟨#[116,114,117,101]⟩:ByteArray).data.toList=Ps.wTrue from rfl] at K;go_wp2_with fail;refine K.o.mono ?_;rintro e w2 (⟨hw,rfl,hb,hr2⟩|⟨hw,rfl,ho2,hr2⟩);rotate_left
 ·have hlf:Ps.leafOf t=some (Ps.opN 9 0):=by unfold Ps.leafOf;rw[if_neg HNK.o.1,if_neg HNK.o.2.1,if_neg HNK.o.2.2,if_pos hw]
  obtain rfl:res=some ([Ps.opN 9 0],r):=by
   rcases HCS.o with⟨x,h,h2⟩|⟨h,-⟩
   ·rw[hlf] at h
    cases h;exact h2
   ·rw[hlf] at h
    cases h
  have HOK:=q_ (leaf_ok HTK.o hlf);have R3:=q_ hr2;have O3:=q_ (onlyG_tr OG1.o ho2);clear hr2 ho2 hlf hw HCS K;go_wp2_with fail;go_ret;exact⟨O3.o.on ((Below.refl _ _).alloc (n_) _),leaf_nodes _ HOK.o rfl O3.o.size rfl,R3.o.below ((Below.refl _ _).alloc (n_) _)⟩
 have HWT:=q_ hw;have R2:=q_ hr2;have OG2:=q_ (OG1.o.on hb);clear hw hr2 hb K;have K:=q_ (rtake_any w2 g gb t r ⟨#[102,97,108,115,101]⟩ R2.o);rw[show(⟨#[102,97,108,115,101]⟩:ByteArray).data.toList=Ps.wFalse from rfl] at K;go_wp2_with fail;refine K.o.mono ?_;rintro e w3 (⟨hw,rfl,hb,hr2⟩|⟨hw,rfl,ho2,hr2⟩);rotate_left
 ·have hlf:Ps.leafOf t=some (Ps.opN 10 0):=by unfold Ps.leafOf;rw[if_neg HNK.o.1,if_neg HNK.o.2.1,if_neg HNK.o.2.2,if_neg (by rw[HWT.o];simp),if_pos hw]
  obtain rfl:res=some ([Ps.opN 10 0],r):=by
   rcases HCS.o with⟨x,h,h2⟩|⟨h,-⟩
   ·rw[hlf] at h
    cases h;exact h2
   ·rw[hlf] at h
    cases h
  have HOK:=q_ (leaf_ok HTK.o hlf);have R3:=q_ hr2;have O3:=q_ (onlyG_tr OG2.o ho2);clear hr2 ho2 hlf hw HCS K;go_wp2_with fail;go_ret;exact⟨O3.o.on ((Below.refl _ _).alloc (n_) _),leaf_nodes _ HOK.o rfl O3.o.size rfl,R3.o.below ((Below.refl _ _).alloc (n_) _)⟩
 have HWF:=q_ hw;have R3:=q_ hr2;have OG3:=q_ (OG2.o.on hb);clear hw hr2 hb K;have hlf:=q_ (show Ps.leafOf t=none by unfold Ps.leafOf;rw[if_neg HNK.o.1,if_neg HNK.o.2.1,if_neg HNK.o.2.2,if_neg (by rw[HWT.o];simp),if_neg (by rw[HWF.o];simp)])
 have hcs:(Ps.isW t [40]=true/\((Ps.R (.bin 0) r none/\res=none)\/∃n t2 r2,Ps.R (.bin 0) r (some (n,t2::r2))/\((Ps.isW t2 [41]=false/\res=none)\/(Ps.isW t2 [41]=true/\res=some (n,r2)))))\/(Ps.isW t [40]=false/\((Ps.nameOk t=false/\res=none)\/(Ps.nameOk t=true/\∃t2 r2,r=t2::r2/\((Ps.isW t2 [40]=false/\res=some ([Ps.nameN t.text],r))\/(Ps.isW t2 [40]=true/\CallR t.text r2 res))))):=by
  rcases HCS.o with⟨x,h,-⟩|⟨-,h⟩
  ·rw[hlf.o] at h
   cases h
  ·exact h
 have K:=q_ (rtake_any w3 g gb t r ⟨#[40]⟩ R3.o);rw[show(⟨#[40]⟩:ByteArray).data.toList=[40] from rfl] at K;clear HCS R1 OG1 R2 OG2 HWT HWF hlf;go_wp2_with fail;refine K.o.mono ?_;rintro e w4 (⟨hw,rfl,hb,hr2⟩|⟨hw,rfl,ho2,hr2⟩);rotate_left
 ·have hcs2:(Ps.R (.bin 0) r none/\res=none)\/∃n t2 r2,Ps.R (.bin 0) r (some (n,t2::r2))/\((Ps.isW t2 [41]=false/\res=none)\/(Ps.isW t2 [41]=true/\res=some (n,r2))):=by
   rcases hcs with⟨_,h⟩|⟨h,_⟩
   ·exact h
   ·rw[hw] at h;cases h
  have R4:=q_ hr2;have O4:=q_ (onlyG_tr OG3.o ho2);have hrl:r.length<=N:=by have:=HNN.o;simp at this;omega
  clear hr2 ho2 hcs hw K;go_wp2_with fail;rcases hcs2 with⟨hR,rfl⟩|⟨n,t2,r2,hR,hcs⟩
  ·refine(HS.o w4 g gb r _ hrl R4.o hR).mono ?_
   rintro e w5 hp;obtain⟨ho,l,c,rfl⟩:=hp.bad;have O5:=q_ (onlyG_tr O4.o ho);clear hp ho hR;unfold panB;go_wp2;exact⟨rfl,O5.o,_,_,rfl⟩
  ·refine(HS.o w4 g gb r _ hrl R4.o hR).mono ?_
   rintro e w5 hp;obtain⟨ho,⟨ad,c5,rfl,hnc,hcm5,hl⟩,hr5⟩:=hp.okd;simp only at hnc hl hr5;have O5:=q_ (onlyG_tr O4.o ho);have hs4:=O4.o.size;have L5:=q_ hl;have KW:=q_ (rwant_any w5 g gb t2 r2 ⟨#[41]⟩ hr5);rw[show(⟨#[41]⟩:ByteArray).data.toList=[41] from rfl] at KW;clear hp ho hl hr5 hR;go_wp2_with fail;refine KW.o.mono ?_;rintro e w6 (⟨hw,⟨l6,c6,rfl⟩,hb6⟩|⟨hw,rfl,ho6,hr6⟩)
   ·obtain rfl:res=none:=by
     rcases hcs with⟨_,h⟩|⟨h,_⟩
     ·exact h
     ·rw[hw] at h;cases h
    have O6:=q_ (O5.o.on hb6);clear hb6 hcs KW;unfold panB;go_wp2;exact⟨rfl,O6.o,_,_,rfl⟩
   ·obtain rfl:res=some (n,r2):=by
     rcases hcs with⟨h,_⟩|⟨_,h⟩
     ·rw[hw] at h;cases h
     ·exact h
    have O6:=q_ (onlyG_tr O5.o ho6);have hs6:=ho6.size;have L6:=q_ (ho6.lat L5.o (fun b hb=>⟨hb.2,by have:=hb.1;omega⟩));have R6:=q_ hr6;clear ho6 hr6 hcs KW;go_wp2_with fail;go_ret;exact⟨O6.o,⟨ad,c5,rfl,hnc,hcm5,L6.o.wide (fun b hb=>⟨Nat.le_trans hs4 hb.1,Nat.lt_of_lt_of_le hb.2 hs6⟩)⟩,R6.o⟩
 ·have hcs2:(Ps.nameOk t=false/\res=none)\/(Ps.nameOk t=true/\∃t2 r2,r=t2::r2/\((Ps.isW t2 [40]=false/\res=some ([Ps.nameN t.text],r))\/(Ps.isW t2 [40]=true/\CallR t.text r2 res))):=by
   rcases hcs with⟨h,_⟩|⟨_,h⟩
   ·rw[hw] at h;cases h
   ·exact h
  have O4:=q_ (OG3.o.on hb);have KN:=q_ (rname_any w4 g gb t r hr2 hts);clear hr2 hb hcs hw K;go_wp2_with fail;refine KN.o.mono ?_;rintro e w5 (⟨hn,⟨l5,c5,rfl⟩,hb5⟩|⟨hn,rfl,ho5,hr5⟩)
  ·obtain rfl:res=none:=by
    rcases hcs2 with⟨_,h⟩|⟨h,_⟩
    ·exact h
    ·rw[hn] at h;cases h
   have O5:=q_ (O4.o.on hb5);clear hb5 hcs2 KN;unfold panB;go_wp2;exact⟨rfl,O5.o,_,_,rfl⟩
  ·obtain⟨t2,r2,rfl,hcs3⟩:∃t2 r2,r=t2::r2/\((Ps.isW t2 [40]=false/\res=some ([Ps.nameN t.text],r))\/(Ps.isW t2 [40]=true/\CallR t.text r2 res)):=by
    rcases hcs2 with⟨h,_⟩|⟨_,h⟩
    ·rw[hn] at h;cases h
    ·exact h
   have O5:=q_ (onlyG_tr O4.o ho5);have K:=q_ (rtake_any w5 g gb t2 r2 ⟨#[40]⟩ hr5);rw[show(⟨#[40]⟩:ByteArray).data.toList=[40] from rfl] at K;clear ho5 hr5 hcs2 KN hn;go_wp2_with fail;refine K.o.mono ?_;rintro e w6 (⟨hw,rfl,hb6,hr6⟩|⟨hw,rfl,ho6,hr6⟩)
   ·obtain rfl:res=some ([Ps.nameN t.text],t2::r2):=by
     rcases hcs3 with⟨_,h⟩|⟨h,_⟩
     ·exact h
     ·rw[hw] at h;cases h
    have O6:=q_ (O5.o.on hb6);have R6:=q_ hr6
    have HOK:=q_ (show(Ps.nameN t.text).ok64 by
     have:=HTK.o.1;refine⟨?_,?_,?_,?_,?_⟩<;>simp[Ps.nameN,Ps.E0,Ps.path0,I64,M.Path.ok64,ByteArray.size]<;>omega)
    clear hb6 hr6 hcs3 K;go_wp2_with fail;go_ret;exact⟨O6.o.on ((Below.refl _ _).alloc (n_) _),leaf_nodes _ HOK.o rfl O6.o.size rfl,R6.o.below ((Below.refl _ _).alloc (n_) _)⟩
   ·have hC:CallR t.text r2 res:=by
     rcases hcs3 with⟨h,_⟩|⟨_,h⟩
     ·rw[hw] at h;cases h
     ·exact h
    have O6:=q_ (onlyG_tr O5.o ho6);have KC:=q_ (call_part N HS.o w6 g gb r2 res t.text HTK.o.1 (by have:=HNN.o;simp at this;omega) hr6 hC);clear ho6 hr6 hcs3 K hC;go_wp2_with fail;refine KC.o.mono ?_;rintro e w7 hp;have HP:=q_ (hp.on O6.o);clear hp KC;cases res with
    |none=>
     obtain⟨ho,l,c,rfl⟩:=HP.o.bad;clear ho;unfold panB at*;go_wp2;exact⟨rfl,HP.o⟩
    |some x=>
     obtain⟨ho,⟨ad,c,rfl,-⟩,-⟩:=HP.o.okd;clear ho;go_wp2;go_ret;exact HP.o
theorem parts_all:∀N,PartOk .unit 271 N
 |0=>fun w g gb ws res hN hr _=>by have:=hr.ends.ne;omega
 |N+1=>unit_part N (or_part N (and_part N (not_part N (compare_part N (sum_part N (parts_all N))))))
theorem or_all(N:Nat):PartOk (.bin 0) 20 N:=or_part N (and_part N (not_part N (compare_part N (sum_part N (parts_all N)))))
def nowhere:Nat->Prop:=fun _=>False
def ScanJ(s:ByteArray)(L:Ad.Bs)(w:World)(l:Nat)(a:Act)(w':World):Prop:=
 ∃(k:Nat) (ln bg:Int) (v:Value) (toks:List Ad.Tok),ScanF s k ln bg v a/\k<=s.size/\(0<=ln/\ln<=k+1)/\(0<=bg/\bg<=k)/\toks.length<=k/\Ad.ScanAt L k toks/\OwnE tokE 137 w' w.heap.size nowhere v toks/\Below w.heap.size w w'/\(l=0\/(l=1/\∃c,L.drop k=c::L.drop (k+1)/\c.toNat=35))
def ScanOut(s:ByteArray)(w:World)(e:Ending)(w':World):Prop:=
 ∃x,(s.size<=65536->Ad.ScanX s.data.toList x)/\(65536<s.size->x= .error 2)/\match x with
  | .error er=>∃a b:Int,e= .returned (.tuple #[.slice none 0 0,.int .i64 er,.int .i64 a,.int .i64 b])
  | .ok toks=>∃g c,toks.length<=s.size/\e= .returned (.tuple #[.slice (some ⟨g,0,none⟩) (toks.length+1) c,.int .i64 0,.int .i64 0,.int .i64 0])/\LAt tokE w' (New w w') (some ⟨g,0,none⟩) (toks.length+1) (toks++[⟨0,[],0⟩])/\toks.length+1<=c/\c<=maxLen
theorem infoWord:(Tryz.prog.info? 137).map (fun i=>(i.zero,i.size,i.bytes))=some (some (.agg zw),11,104):=by kernel_rfl
theorem scan_any(s:ByteArray)(w:World)(hs:s.size<=100000):
 Calls Tryz.prog 74 #[.string s] w fun e w'=>ScanOut s w e w'/\Below w.heap.size w w':=by
 obtain⟨L,hL⟩:∃L,L=s.data.toList:=⟨_,rfl⟩
 have HLen:=q_ (show L.length=s.size by rw[hL];simp);have HL:=q_ hL;clear hL;go_enter Tryz.func74,Tryz.ntmps74;go_wp2;by_cases hbig:65536<s.size
 ·refine wp_scope_two (fun _ _ _=>False) (fun l a _=>0) rfl rfl (fun _ _ _ h=>h.elim) (fun _ _ h=>h.elim) (fun _ _ h=>h.elim) (fun _=> ?_)
  go_wp2_with fail;rw[jumpsTo_ret]
  (try simp only[Exit.inBlock,Exit.then]);refine bodyPost_ret (results_tmp4 rfl _ _ _) rfl ?_;exact⟨⟨.error 2,fun h=>by omega,fun _=>rfl,_,_,rfl⟩,Below.refl _ _⟩
 ·refine wp_scope_two (ScanJ s L w) (fun l a _=>2*(s.size-(intOf (a.tmps.getD 7 undef)).toNat)+(1-l)) rfl rfl ?_ ?_ ?_ ?_
  ·rintro l a w' ⟨k,ln,bg,v,toks,h1,h2,h3,h4,h5,h6,h7,h8,h|h⟩
   ·exact Or.inl h
   ·exact Or.inr h.1
  ·rintro a w' ⟨k,ln,bg,v,toks,hf,hk,hln,hbg,htl,hat,hown,hbel,-⟩
   obtain⟨u,rfl⟩:=hf.lit;clear hf;have HAT:=q_ hat;clear hat;by_cases hlt:k<s.size
   ·have hd:L.drop k=s[k]::L.drop (k+1):=by
     rw[HL.o,List.drop_eq_getElem_cons (by simpa using hlt)];rfl
    have HD:=q_ hd;clear hd;have hi1:∀W:World,(Instr.index 9 (.string s) (.int .i64 (k:Int))).run Tryz.prog W= .ok (.int .u8 (s[k].toNat:Int)) W:=fun W=>idx_atu s k hlt rfl W;have hc:=s[k].toNat_lt;generalize s[k]=c at*;by_cases hbl:Ad.blank c
    ·have HA:=q_ (HAT.o.skip HD.o hbl)
     have hbl2:c.toNat=10\/(c.toNat≠10/\c.toNat=32)\/(c.toNat≠10/\c.toNat≠32/\c.toNat=9)\/(c.toNat≠10/\c.toNat≠32/\c.toNat≠9/\c.toNat=13):=by unfold Ad.blank at hbl;omega
     clear hbl;rcases hbl2 with h|⟨h1,h⟩|⟨h1,h2,h⟩|⟨h1,h2,h3,h⟩
     ·have q1:((c.toNat:Int)==10)=true:=by rw[h];rfl
      clear h;go_wp2_with fail
      go_step3
      exact⟨⟨k+1,ln+1,(k:Int)+1,v,toks,⟨rfl,rfl,rfl,rfl,rfl,rfl,rfl,rfl,by go_num,by go_num,by go_num⟩,by omega,by omega,by omega,by omega,HA.o,hown,hbel,Or.inl rfl⟩,by simp[intOf];omega⟩
     ·have q1:((c.toNat:Int)==10)=false:=by rw[h];rfl
      have q2:((c.toNat:Int)==32)=true:=by rw[h];rfl
      clear h h1;go_wp2_with fail
      go_step3
      exact⟨⟨k+1,ln,bg,v,toks,⟨rfl,rfl,rfl,rfl,rfl,rfl,rfl,rfl,by go_num,by go_num,by go_num⟩,by omega,by omega,by omega,by omega,HA.o,hown,hbel,Or.inl rfl⟩,by simp[intOf];omega⟩
     ·have q1:((c.toNat:Int)==10)=false:=by rw[h];rfl
      have q2:((c.toNat:Int)==32)=false:=by rw[h];rfl
      have q3:((c.toNat:Int)==9)=true:=by rw[h];rfl
      clear h h1 h2;go_wp2_with fail
      go_step3
      exact⟨⟨k+1,ln,bg,v,toks,⟨rfl,rfl,rfl,rfl,rfl,rfl,rfl,rfl,by go_num,by go_num,by go_num⟩,by omega,by omega,by omega,by omega,HA.o,hown,hbel,Or.inl rfl⟩,by simp[intOf];omega⟩
     ·have q1:((c.toNat:Int)==10)=false:=by rw[h];rfl
      have q2:((c.toNat:Int)==32)=false:=by rw[h];rfl
      have q3:((c.toNat:Int)==9)=false:=by rw[h];rfl
      have q4:((c.toNat:Int)==13)=true:=by rw[h];rfl
      clear h h1 h2 h3;go_wp2_with fail
      go_step3
      exact⟨⟨k+1,ln,bg,v,toks,⟨rfl,rfl,rfl,rfl,rfl,rfl,rfl,rfl,by go_num,by go_num,by go_num⟩,by omega,by omega,by omega,by omega,HA.o,hown,hbel,Or.inl rfl⟩,by simp[intOf];omega⟩
    ·have q1:((c.toNat:Int)==10)=false:=by rw[beq_eq_false_iff_ne];unfold Ad.blank at hbl;omega
     have q2:((c.toNat:Int)==32)=false:=by rw[beq_eq_false_iff_ne];unfold Ad.blank at hbl;omega
     have q3:((c.toNat:Int)==9)=false:=by rw[beq_eq_false_iff_ne];unfold Ad.blank at hbl;omega
     have q4:((c.toNat:Int)==13)=false:=by rw[beq_eq_false_iff_ne];unfold Ad.blank at hbl;omega
     by_cases h35:c.toNat=35
     ·have q5:((c.toNat:Int)==35)=true:=by rw[h35];rfl
      have HRM:=q_ (show∃c,L.drop k=c::L.drop (k+1)/\c.toNat=35 from⟨c,HD.o,h35⟩);clear hbl h35;go_wp2_with fail
      go_step3
      exact⟨⟨k,ln,bg,v,toks,⟨rfl,rfl,rfl,rfl,rfl,rfl,rfl,rfl,by go_num,by go_num,by go_num⟩,by omega,by omega,by omega,by omega,HAT.o,hown,hbel,Or.inr ⟨rfl,HRM.o⟩⟩,by simp[intOf]⟩
     ·have q5:((c.toNat:Int)==35)=false:=by rw[beq_eq_false_iff_ne];omega
      have HW1:=q_ (fun t n hw=>HAT.o.word HD.o hbl h35 (t:=t) (n:=n) hw);have HW2:=q_ (fun er hw=>HAT.o.bad HD.o hbl h35 (er:=er) hw);obtain⟨x,hwr⟩:∃x,Ad.wordX (L.drop k)=x:=⟨_,rfl⟩
      have hse:(s.extract k s.size).data.toList=L.drop k:=by rw[HL.o];simp[ByteArray.data_extract];rw[List.take_of_length_le (by simp)]
      have KW0:∀W:World,_:=fun W=>word_any (s.extract k s.size) W (by rw[ByteArray.size_extract];omega) (by rw[ByteArray.size_extract];omega);unfold WordOut at KW0;rw[hse,hwr] at KW0;have KW:=q_ KW0;have HWR:=q_ hwr;clear hbl h35 hse KW0 hwr;go_wp2_with fail;refine(KW.o _).mono ?_
      rintro e w1 ⟨hx,hb1⟩;have hown1:=hown.below hb1;have hbel1:=hbel.trans (hb1.mono hbel.size);clear hown hbel hb1 KW hi1 q1 q2 q3 q4 q5;cases x with
      |error er=>
       have hx:e=_:=hx;subst hx;have HX:=q_ (HW2.o er HWR.o);have her:er≠0:=by rcases Ad.wordX_err HWR.o with h|h<;>omega
       have hb2:Below w1.heap.size w1 (w1.alloc (.cells zw 137)):=(Below.refl _ w1).alloc (n_) _;have q6:(er !=0)=true:=by rw[bne_iff_ne];exact her
       clear her;go_wp2_with (refine wpList_store_blk (cs':=zw) rfl 137 (.tmp 10) (.tmp 52) rfl w1.heap.size rfl rfl (Blk.new w1 137 zw) rfl (by kernel_rfl) (by simp[Value.oneCell']) ?_;intro w2 hk2 hg2;have B2:=q_ (below_grown hg2 (show w1.heap.size<=_ by simp) (n_));clear hk2 hg2);rw[jumpsTo_ret]
       (try simp only[Exit.inBlock,Exit.then]);refine bodyPost_ret (results_tmp4 rfl _ _ _) rfl ?_;exact⟨⟨.error er,fun _=>HL.o▸HX.o,fun h=>absurd h hbig,_,_,rfl⟩,hbel1.trans ((hb2.trans (B2.o.mono (n_))).mono hbel1.size)⟩
      |ok y=>
       obtain⟨t,n⟩:=y;obtain⟨cs,⟨p,⟨⟨pt,pa,pb,pc,pd,pe,rfl⟩,hpx⟩,rfl⟩,rfl⟩:=hx;have HX:=q_ (HW1.o t n HWR.o);have hn:=Ad.wordX_len HWR.o;have hn2:k+n<=s.size:=by have:=HLen.o;rw[List.length_drop] at hn;omega
       obtain⟨hn1,-⟩:=hn;clear HWR HW1 HW2 HAT;obtain⟨it,J1,J2,J3,J4⟩:=info_parts infoWord;have NW:=q_ (fun(W:World) (l c:Int) (g:Nat) (hg:W.heap.size=g)=>hg▸news_one (E:=tokE) (w:=W) (S:=nowhere) (x:=t) (cs:=[.int .i64 t.kind,.string ⟨t.text.toArray⟩,.int .i64 t.num,.string pt,.int .i64 pa,.int .i64 pb,.int .i64 pc,.int .i64 pd,.int .i64 pe,.int .i64 l,.int .i64 c]) (T':=137) ⟨_,l,c,⟨⟨pt,pa,pb,pc,pd,pe,rfl⟩,hpx⟩,rfl⟩ (fun b hb=>hb.elim))
       go_wp2_with (first|(refine wpList_store_blk (cs':=#[.int .i64 t.kind,.string ⟨t.text.toArray⟩,.int .i64 t.num,.string pt,.int .i64 pa,.int .i64 pb,.int .i64 pc,.int .i64 pd,.int .i64 pe,.int .i64 0,.int .i64 0]) rfl 137 (.tmp 10) (.tmp 52) rfl w1.heap.size rfl rfl (Blk.new w1 137 zw) rfl (by kernel_rfl) (by simp[Value.oneCell']) ?_;intro w2 hk2 hg2;have K2:=q_ hk2;have B2:=q_ (((Below.refl _ w1).alloc (n_) (.cells zw 137)).trans ((below_grown hg2 (show w1.heap.size<=_ by simp) (n_))));have d2:=hk2.cell;have f2:=hk2.frozen;clear hk2 hg2)|(at_builtin;go_loud (refine wpList_append_E rfl (.tmp 70) (.tmp 72) _ rfl it (.agg zw) 104 Tryz.underlying126 J1 J2 J3 J4 rfl rfl (hown1.below (((B2.o.setCell (n_) _).setCell (n_) _).alloc (by have:=B2.o.size;simp;omega) _)) ⟨_,0,none⟩ 1 1 [t] rfl rfl (NW.o _ _ _ _ (by simp)) (by omega) (by omega) (by have:=B2.o.size;have:=hbel1.size;simp;omega) ?_;intro o4 w4 hown4 hb4 hg4 hw4)))
       have Hb4:=q_ (hbel1.trans ((((B2.o.setCell (p:=⟨w1.heap.size,9,none⟩) (n_) (.int .i64 ln)).setCell (p:=⟨w1.heap.size,10,none⟩) (n_) (.int .i64 ((k:Int)-bg+1))).alloc (by have:=B2.o.size;simp;omega) _).mono hbel1.size)|>.trans hb4);clear hb4 hg4 hw4 d2 f2 NW K2 B2 hown1 hbel1 J1 J2 J3 J4;go_wp2_with fail
       go_step3
       exact⟨⟨k+n,ln,bg,o4,toks++[t],⟨rfl,rfl,rfl,rfl,rfl,rfl,rfl,rfl,by go_num,by go_num,by go_num⟩,by omega,by omega,by omega,by simp;omega,HX.o,hown4,Hb4.o,Or.inl rfl⟩,by simp[intOf];omega⟩
   ·obtain rfl:k=s.size:=by omega
    have HX:=q_ (HAT.o.done (by rw[HLen.o];exact n_));obtain⟨it,J1,J2,J3,J4⟩:=info_parts infoWord;have NW:=q_ (fun(W:World) (l c:Int) (g:Nat) (hg:W.heap.size=g)=>hg▸news_one (E:=tokE) (w:=W) (S:=nowhere) (x:=⟨0,[],0⟩) (cs:=[.int .i64 0,.string ⟨#[]⟩,.int .i64 0,.string ⟨#[]⟩,.int .i64 0,.int .i64 0,.int .i64 0,.int .i64 0,.int .i64 0,.int .i64 l,.int .i64 c]) (T':=137) ⟨_,l,c,⟨⟨_,_,_,_,_,_,rfl⟩,fun h=>by simp at h⟩,rfl⟩ (fun b hb=>hb.elim));clear HAT;go_wp2_with (at_builtin;go_loud (refine wpList_append_E rfl (.tmp 20) (.tmp 27) _ rfl it (.agg zw) 104 Tryz.underlying126 J1 J2 J3 J4 rfl rfl (hown.alloc _) ⟨_,0,none⟩ 1 1 [⟨0,[],0⟩] rfl rfl (NW.o _ _ _ _ (by simp)) (by omega) (by omega) (by have:=hbel.size;simp;omega) ?_;intro o4 w4 hown4 hb4 hg4 hw4));have Hb4:=q_ ((hbel.alloc hbel.size _).trans hb4);clear hb4 hg4 hw4;rw[jumpsTo_ret]
    (try simp only[Exit.inBlock,Exit.then]);refine bodyPost_ret (results_tmp4 rfl _ _ _) rfl ?_;obtain⟨A,c,e1,hok,hl⟩:=Enc.list_inv (hown4.reads (S':=New w w4) (fun b hb=>hb.elim) (fun g hg=>hown4.own_lt hg) (by simp;omega));rcases hown4.form with⟨_,h⟩|⟨g,cap,e2,-,-,hnc,hcm⟩
    ·simp at h
    ·rw[e2] at e1
     injection e1 with e3 _ e4;subst e2 e3 e4;rw[List.length_append,List.length_singleton] at hl hnc⊢;exact⟨⟨.ok toks,fun _=>HL.o▸HX.o,fun h=>by omega,g,cap,htl,rfl,hl,hnc,hcm⟩,Hb4.o⟩
  ·rintro a w' ⟨k,ln,bg,v,toks,hf,hk,hln,hbg,htl,hat,hown,hbel,h⟩
   obtain h|⟨-,c,hd,h35⟩:=h
   ·cases h
   obtain⟨u,rfl⟩:=hf.lit;have HAT:=q_ (fun j hj=>hat.remark hd h35 j hj)
   have hkl:k<s.size:=by
    have:=congrArg List.length hd;rw[List.length_drop,HLen.o] at this;simp at this;omega
   have HK:=q_ (show s[k].toNat=35 from by
    have h1:L.drop k=s[k]::L.drop (k+1):=by
     rw[HL.o,List.drop_eq_getElem_cons (by simpa using hkl)];rfl
    rw[hd] at h1;injection h1 with h1 _;rw[<-h1];exact h35)
   clear hf hat hd h35 c;go_wp2_with fail;go_loopw [7] (fun x wr=>∃j:Nat,x= .int .i64 j/\k<=j/\j<=s.size/\wr=w'/\Q_ (∀i,k<=i->i<j->∃c,L[i]? =some c/\Ad.inLine c=true)) (fun x _=>s.size-(intOf x).toNat)
   case atStart=>exact⟨k,rfl,n_,hk,rfl,q_ (fun i h1 h2=>absurd h1 (by omega))⟩
   case round=>
    obtain⟨j,rfl,hkj,hj,rfl,HIN⟩:=hrel;by_cases hlt:j<s.size
    ·have hi1:∀W:World,(Instr.index 9 (.string s) (.int .i64 (j:Int))).run Tryz.prog W= .ok (.int .u8 (s[j].toNat:Int)) W:=fun W=>idx_atu s j hlt rfl W
     have hkk:k<s.size:=hkl;by_cases h10:s[j].toNat=10
     ·have hne:k+1<=j:=by
       rcases Nat.lt_or_ge k j with h|h
       ·exact h
       ·have:j=k:=by omega
        subst this;rw[HK.o] at h10;cases h10
      have q1:((s[j].toNat:Int) !=10)=false:=by rw[h10];rfl
      have HA:=q_ (HAT.o j (by
       have:=Ad.dropW Ad.inLine (L.drop (k+1)) (j-(k+1)) (fun i hi=>by
        have:=HIN.o (k+1+i) (by omega) (by omega)
        rwa [List.getElem?_drop]) (fun c hc=>by
        rw[List.getElem?_drop,show k+1+(j-(k+1))=j by omega,HL.o,List.getElem?_eq_getElem (by simpa using hlt)] at hc;cases hc;unfold Ad.inLine;exact decide_eq_false (fun h=>h h10))
       rw[this,List.drop_drop,show k+1+(j-(k+1))=j by omega]))
      clear h10;go_wp2_with fail
      go_step3
      exact⟨⟨j,ln,bg,v,toks,⟨rfl,rfl,rfl,rfl,rfl,rfl,rfl,rfl,rfl,rfl,rfl⟩,hj,by omega,by omega,by omega,HA.o,hown,hbel,Or.inl rfl⟩,by simp[intOf];omega⟩
     ·have q1:((s[j].toNat:Int) !=10)=true:=by rw[bne_iff_ne];omega
      have HIN2:=q_ (show∀i,k<=i->i<j+1->∃c,L[i]? =some c/\Ad.inLine c=true from fun i h1 h2=>by
       rcases Nat.lt_or_ge i j with h|h
       ·exact HIN.o i h1 h
       ·obtain rfl:i=j:=by omega
        refine⟨s[i],?_,by unfold Ad.inLine;exact decide_eq_true h10⟩;rw[HL.o,List.getElem?_eq_getElem (by simpa using hlt)];rfl)
      clear h10 HIN;go_wp2_with fail;go_roundw
      case rel=>exact⟨j+1,by go_num,by omega,by omega,by trivial,HIN2⟩
      case measure=>simp[intOf];omega
    ·obtain rfl:j=s.size:=by omega
     have HA:=q_ (HAT.o s.size (by
      have:=Ad.dropW Ad.inLine (L.drop (k+1)) (s.size-(k+1)) (fun i hi=>by
       have:=HIN.o (k+1+i) (by omega) (by omega)
       rwa [List.getElem?_drop]) (fun c hc=>by
       rw[List.getElem?_drop,List.getElem?_eq_none (by rw[HLen.o];omega)] at hc;cases hc)
      rw[this,List.drop_drop,show k+1+(s.size-(k+1))=s.size by omega]))
     go_wp2_with fail
     go_step3
     exact⟨⟨s.size,ln,bg,v,toks,⟨rfl,rfl,rfl,rfl,rfl,rfl,rfl,rfl,rfl,rfl,rfl⟩,n_,by omega,by omega,by omega,HA.o,hown,hbel,Or.inl rfl⟩,by simp[intOf];omega⟩
  ·intro hgo
   have HG:=q_ hgo;clear hgo;go_wp2
   go_step3
   rename_i K hK;refine hK _ _ (HG.o _ _ ?_);exact⟨0,1,0,.slice none 0 0,[],⟨rfl,rfl,rfl,rfl,rfl,rfl,rfl,rfl,rfl,rfl,rfl⟩,by omega,by omega,by omega,by simp,Ad.ScanAt.start L,OwnE.nil (fun b hb=>hb.elim),Below.refl _ _,Or.inl rfl⟩
end Go.Proofs.YtnocnbklhikmnaaGreatDoor
