/- Part 13 of the proof. -/
import Derived.Test.YtpohlhkgbmdieaaGreatDoorW12
set_option linter.unusedVariables false
set_option maxRecDepth 1000000
set_option maxHeartbeats 16000000
namespace Go.Proofs.YtpohlhkgbmdieaaGreatDoor
variable{k:Nat}{l:List M.Seg}{s:M.Seg}
section
open Go.RowKit Go.BigFrame
theorem Oq{p:Nat->Prop}(h:p 0/\p 1/\p 2/\p 3/\p 4)(n:Nat)(hn:n<5):p n:=by
 obtain⟨h0,h1,h2,h3,h4⟩:=h;rcases(by omega:n=0\/n=1\/n=2\/n=3\/n=4) with rfl|rfl|rfl|rfl|rfl<;>assumption
theorem Xn(f c r e s:UInt8)(W:World)(n:Nat)(hn:n<5):(Instr.index 138 (.agg #[.int .u8 (f.toNat:Int),.int .u8 (c.toNat:Int),.int .u8 (r.toNat:Int),.int .u8 (e.toNat:Int),.int .u8 (s.toNat:Int)]) (.int .i64 (n:Int))).run Tryz.prog W= .ok (.int .u8 ((([f,c,r,e,s].getD n 0).toNat:Nat):Int)) W:=by
 refine Oq (p:=fun n=>(Instr.index 138 (.agg #[.int .u8 (f.toNat:Int),.int .u8 (c.toNat:Int),.int .u8 (r.toNat:Int),.int .u8 (e.toNat:Int),.int .u8 (s.toNat:Int)]) (.int .i64 (n:Int))).run Tryz.prog W= .ok (.int .u8 ((([f,c,r,e,s].getD n 0).toNat:Nat):Int)) W) ?_ n hn;exact⟨by kernel_rfl,by kernel_rfl,by kernel_rfl,by kernel_rfl,by kernel_rfl⟩
theorem r4:Tryz.prog.stoodInHeld 24=false:=by kernel_rfl
theorem nT:∃g0 g1 g2 g3 g4:Field,Tryz.prog.underlying 24=some (.struct #[g0,g1,g2,g3,g4])/\(g0.type=5/\g0.offset=0/\(g0.name≠ "_"))/\(g1.type=5/\g1.offset=1/\(g1.name≠ "_"))/\(g2.type=5/\g2.offset=2/\(g2.name≠ "_"))/\(g3.type=5/\g3.offset=3/\(g3.name≠ "_"))/\(g4.type=5/\g4.offset=4/\(g4.name≠ "_")):=
 ⟨_,_,_,_,_,Tryz.underlying24,⟨rfl,rfl,by decide⟩,⟨rfl,rfl,by decide⟩,⟨rfl,rfl,by decide⟩,⟨rfl,rfl,by decide⟩,⟨rfl,rfl,by decide⟩⟩
theorem Gx(f c r e s f' c' r' e' s':UInt8)(W:World):
 (binOp .eql 24 (.agg #[.int .u8 (f.toNat:Int),.int .u8 (c.toNat:Int),.int .u8 (r.toNat:Int),.int .u8 (e.toNat:Int),.int .u8 (s.toNat:Int)]) (.agg #[.int .u8 (f'.toNat:Int),.int .u8 (c'.toNat:Int),.int .u8 (r'.toNat:Int),.int .u8 (e'.toNat:Int),.int .u8 (s'.toNat:Int)])).run Tryz.prog W= .ok (.bool (decide ([f,c,r,e,s]=[f',c',r',e',s']))) W:=by
 obtain⟨g0,g1,g2,g3,g4,hu,⟨t0,o0,n0⟩,⟨t1,o1,n1⟩,⟨t2,o2,n2⟩,⟨t3,o3,n3⟩,⟨t4,o4,n4⟩⟩:=nT;have hf:Tryz.prog.fieldsOf 24=#[g0,g1,g2,g3,g4]:=by simp[Program.fieldsOf,hu]
 rw[run_eql_struct,run_equalIn_struct W 9999 _ _ _ (by rw[hu,hf]) r4,hf]
 have u:∀a b:UInt8,(((a.toNat:Nat):Int)==((b.toNat:Nat):Int))=decide (a=b):=fun a b=>by
  rw[Bool.eq_iff_iff,beq_iff_eq,decide_eq_true_iff];exact⟨fun h=>UInt8.toNat_inj.1 (by omega),fun h=>by rw[h]⟩
 simp[Op.eqFields,n0,n1,n2,n3,n4,t0,t1,t2,t3,t4,o0,o1,o2,o3,o4,go_sem,u];by_cases h0:f=f'<;>by_cases h1:c=c'<;>by_cases h2:r=r'<;>by_cases h3:e=e'<;>by_cases h4:s=s'<;>simp[h0,h1,h2,h3,h4]
theorem Xo(g k:Nat)(hk:k<=5)(W:World):(Instr.sliceAt 138 (.pointer (some ⟨g,0,none⟩)) none (some (.int .i64 (k:Int))) none).run Tryz.prog W= .ok (.slice (some ⟨g,0,none⟩) k 5) W:=by
 have Tz:Tryz.prog.arrayLen 138=5:=by kernel_rfl
 have CN:Tryz.prog.elem 138=5:=by kernel_rfl
 have h:=run_sliceAt_array_h (P:=Tryz.prog) W 138 ⟨g,0,none⟩ (by rw[Tz,CN];exact Tryz.underlying138) .i64 (k:Int) (by omega) (by rw[Tz];omega);rw[h,CN,Tz];have hs:(sizeOf 5).run Tryz.prog W= .ok 1 W:=by have:=Tryz.sizeOf5;simp[go_sem]
 rw[hs];simp[slicedAt,Addr.add]
theorem Xp(f c r e s:UInt8)(W:World)(t:TypeId)(j:Nat)(hj:j<5):(W.alloc (.cells #[.int .u8 (f.toNat:Int),.int .u8 (c.toNat:Int),.int .u8 (r.toNat:Int),.int .u8 (e.toNat:Int),.int .u8 (s.toNat:Int)] t)).cell? ⟨W.heap.size,j,none⟩=some (.int .u8 ((([f,c,r,e,s].getD j 0).toNat:Nat):Int)):=by
 rw[(ar.new W _ _).cell];refine Oq (p:=fun j=>#[Value.int .u8 (f.toNat:Int),.int .u8 (c.toNat:Int),.int .u8 (r.toNat:Int),.int .u8 (e.toNat:Int),.int .u8 (s.toNat:Int)][j]? =some (.int .u8 ((([f,c,r,e,s].getD j 0).toNat:Nat):Int))) ?_ j hj;exact⟨rfl,rfl,rfl,rfl,rfl⟩
theorem nj(f c r e s:UInt8)(w:World):Calls Tryz.prog 24 #[.agg #[.int .u8 (f.toNat:Int),.int .u8 (c.toNat:Int),.int .u8 (r.toNat:Int),.int .u8 (e.toNat:Int),.int .u8 (s.toNat:Int)]] w fun x w'=>x= .returned (.bool (P.valid [f,c,r,e,s]))/\Below w.heap.size w w':=by
 have cell:∀x:Ext (w.alloc (.cells #[.int .u8 (f.toNat:Int),.int .u8 (c.toNat:Int),.int .u8 (r.toNat:Int),.int .u8 (e.toNat:Int),.int .u8 (s.toNat:Int)] 24)),∀i,x.wd.cell? ⟨w.heap.size,i,none⟩=#[Value.int .u8 (f.toNat:Int),.int .u8 (c.toNat:Int),.int .u8 (r.toNat:Int),.int .u8 (e.toNat:Int),.int .u8 (s.toNat:Int)][i]? :=fun x i=>by
  rw[x.cell (by simp),(ar.new w _ _).cell]
 have he:=fun W=>Gx f c r e s 124 94 126 92 38 W;have hB:Below w.heap.size w (w.alloc (.cells #[.int .u8 (f.toNat:Int),.int .u8 (c.toNat:Int),.int .u8 (r.toNat:Int),.int .u8 (e.toNat:Int),.int .u8 (s.toNat:Int)] 24)):=(Below.refl _ _).alloc (n_) _;by_cases hD:[f,c,r,e,s]=P.dflt
 ·have hv:P.valid [f,c,r,e,s]=true:=by rw[hD];exact P.FX
  rw[hv]
  have yg:∀W,(binOp .eql 24 (.agg #[.int .u8 (f.toNat:Int),.int .u8 (c.toNat:Int),.int .u8 (r.toNat:Int),.int .u8 (e.toNat:Int),.int .u8 (s.toNat:Int)]) (.agg #[.int .u8 124,.int .u8 94,.int .u8 126,.int .u8 92,.int .u8 38])).run Tryz.prog W= .ok (.bool true) W:=fun W=>by
   have h:=he W;rw[decide_eq_true (p:=[f,c,r,e,s]=[124,94,126,92,38]) hD] at h;exact h
  clear he hD hv;have HB:=q_ hB;clear hB;go_enter Tryz.func24,Tryz.ntmps24;go_wp2_with fail;refine eA (by kernel_rfl) (by kernel_rfl) ?_
  repeat(first|go_big_quiet_step ((go_at_call 80;exact Ext.calls _ (jk _)))|quiet_step ((go_at_call 80;exact Ext.calls _ (jk _))))
  refine wpQuiet_nil ?_;intro w2 hb2;go_wp2;go_ret;exact⟨rfl,HB.o.trans (hb2.mono HB.o.size)⟩
 ·have yg:∀W,(binOp .eql 24 (.agg #[.int .u8 (f.toNat:Int),.int .u8 (c.toNat:Int),.int .u8 (r.toNat:Int),.int .u8 (e.toNat:Int),.int .u8 (s.toNat:Int)]) (.agg #[.int .u8 124,.int .u8 94,.int .u8 126,.int .u8 92,.int .u8 38])).run Tryz.prog W= .ok (.bool false) W:=fun W=>by
   have h:=he W;rw[decide_eq_false (p:=[f,c,r,e,s]=[124,94,126,92,38]) hD] at h;exact h
  clear he hD;have HB:=q_ hB;clear hB;go_enter Tryz.func24,Tryz.ntmps24;go_wp2_with fail;refine eA (by kernel_rfl) (by kernel_rfl) ?_
  repeat(first|go_big_quiet_step ((go_at_call 80;exact Ext.calls _ (jk _)))|quiet_step ((go_at_call 80;exact Ext.calls _ (jk _))))
  refine wpQuiet_nil ?_;intro w2 hb2;have VT:=fun i=>cell ⟨w2,hb2⟩ i;simp only at VT;have j9:=q_ (HB.o.trans (hb2.mono HB.o.size));clear hb2 cell yg;go_wp2_with (go_at_call 81;refine(Kw f c r e s _).mono ?_;rintro x w3 ⟨rfl,hb3⟩);have HB3:=q_ (show Below w.heap.size w (w3.alloc (.cells #[.int .u8 (f.toNat:Int),.int .u8 (c.toNat:Int),.int .u8 (r.toNat:Int),.int .u8 (e.toNat:Int),.int .u8 (s.toNat:Int)] 138)) from(j9.o.trans (hb3.mono j9.o.size)).alloc (t_ j9.o.size hb3.size) _);have HC:=q_ (fun j hj=>Xp f c r e s w3 138 j hj);have HI:=q_ (fun W n hn=>Xn f c r e s W n hn);clear VT hb3;generalize w3.alloc (.cells #[.int .u8 (f.toNat:Int),.int .u8 (c.toNat:Int),.int .u8 (r.toNat:Int),.int .u8 (e.toNat:Int),.int .u8 (s.toNat:Int)] 138)=W at*
  go_loop [14] (fun i=>∃k:Nat,k<=5/\i= .int .i64 k/\P.Ki [f,c,r,e,s] k) (fun i=>5-(intOf i).toNat)
  case atStart=>exact⟨0,by omega,rfl,fun a ha=>by omega⟩
  case round=>
   obtain⟨k,hk,rfl,aI⟩:=hrel;have Hok:=q_ aI;clear aI;by_cases hlt:k<5
   ·have hi:=fun W=>HI.o W k hlt
    have Bm:=q_ (fun h=>P.Tl (L:=[f,c,r,e,s]) hlt h);have Bt:=q_ (fun b hb h=>P.Kk (L:=[f,c,r,e,s]) (b:=b) hlt hb h);have Sc:=q_ (fun hm hd=>P.Kj (i:=k) Hok.o hm hd);have HC2:=HC.o;generalize hL:[f,c,r,e,s]=L at*;have HC:=q_ HC2;have HL:=q_ hL;clear HC2 HI hL;generalize hx:L.getD k 0=x at*;clear hx;have jaj:=q_ (fun W=>Ty x W);by_cases Gy:P.may x=true
    ·have Zz:=Xo w3.heap.size k hk
     have hmx:=x.toNat_lt;go_wp2_with (go_at_call 82;refine(jaj.o _).mono ?_;rintro y w' ⟨rfl,rfl⟩)
     go_loop [24] (fun i=>∃j:Nat,j<=k/\i= .int .i64 j/\∀b,b<j->L.getD b 0≠x) (fun i=>k-(intOf i).toNat)
     case atStart=>exact⟨0,by omega,rfl,fun b hb=>by omega⟩
     case round=>
      obtain⟨j,hj,rfl,hne⟩:=hrel;have Hne:=q_ hne;clear hne;by_cases hjk:j<k
      ·have hcj:=HC.o j (by omega)
       have hy:=(L.getD j 0).toNat_lt;have Bj:=q_ (fun h=>Bt.o j hjk h)
       have Nj:=q_ (show L.getD j 0≠x->∀b,b<j+1->L.getD b 0≠x from fun h b hb=>by
        rcases Nat.lt_or_ge b j with h1|h1
        ·exact Hne.o b h1
        ·have:b=j:=by omega
         subst this;exact h)
       generalize L.getD j 0=y at*;by_cases jK:y=x
       ·have HV:=q_ (Bj.o jK)
        subst jK;have ht:((y.toNat:Int)==(y.toNat:Int))=true:=by simp
        go_wp2;go_ret;rw[HL.o,HV.o];exact⟨rfl,HB3.o⟩
       ·have ht:((y.toNat:Int)==(x.toNat:Int))=false:=beq_eq_false_iff_ne.2 (fun h=>jK (UInt8.toNat_inj.1 (by omega)))
        have Nj2:=q_ (Nj.o jK);clear jK;go_wp2
        go_round
        case rel=>exact⟨j+1,by omega,by go_num,Nj2.o⟩
        case measure=>simp[intOf];omega
      ·have jak:j=k:=by omega
       have jbO:=q_ (Sc.o Gy (jak▸Hne.o));clear jak;go_wp2
       go_round
       case rel=>exact⟨k+1,by omega,by go_num,jbO.o⟩
       case measure=>simp[intOf];omega
    ·have jal:P.may x=false:=by simpa using Gy
     have HV:=q_ (Bm.o jal);clear Gy;go_wp2_with (go_at_call 82;refine(jaj.o _).mono ?_;rintro y w' ⟨rfl,rfl⟩);go_ret;rw[HL.o,HV.o];exact⟨rfl,HB3.o⟩
   ·have Fw:k=5:=by omega
    have HV:=q_ (show P.valid [f,c,r,e,s]=true from decide_eq_true (Fw▸Hok.o));clear Fw;go_wp2;go_ret;rw[HV.o];exact⟨rfl,HB3.o⟩
end
section
open Go.RowKit
def Aq(m:M.dQ):Bool:=match m.aH with
 |s::_=>match s.fields with
  |a::b::_=>M.fN a (M.uJ m.d)&&M.fN b (M.uK m.d)
  |_=>false
 |[]=>false
def l4(l:List M.Seg)(k:Nat):Bool:=l.zipIdx.take k|>.all fun(s,i)=>M.lM i s
theorem Dc(h:l[k]? =some s):l4 l (k+1)=(l4 l k&&M.lM k s):=by
 unfold l4;rw[List.take_add_one];simp[List.getElem?_zipIdx,h,List.all_append]
theorem Dd(l:List M.Seg):l4 l 0=true:=rfl
theorem Au(h:l[k]? =some s)(hs:M.lM k s=false):(l.zipIdx.all fun(s,i)=>M.lM i s)=false:=by
 rw[List.all_eq_false];exact⟨(s,k),m_ (i:=k) (by rw[List.getElem?_zipIdx,h];simp),by simp[hs]⟩
theorem Gz:l4 l l.length=l.zipIdx.all fun(s,i)=>M.lM i s:=by
 unfold l4;rw[List.take_of_length_le (by simp)]
theorem Ot(m:M.dQ):M.valid m=(P.valid m.d.list&&decide (1<=m.aH.length)&&decide (m.aH.length<=200)&&(m.aH.zipIdx.all fun(s,i)=>M.lM i s)&&Aq m):=rfl
theorem uT(d:M.bR)(A:Option Addr)(c:Nat)(l:List M.Seg)(S:Nat->Prop)(w:World)(hS:∀b,S b->b<w.heap.size)(aI:bX A l.length c)(hl:bn aX w S A l.length l):
 Calls Tryz.prog 9 #[.agg #[.int .u8 (d.f.toNat:Int),.int .u8 (d.c.toNat:Int),.int .u8 (d.r.toNat:Int),.int .u8 (d.e.toNat:Int),.int .u8 (d.s.toNat:Int),.slice A l.length c]] w fun e w'=>e= .returned (.bool (M.valid ⟨d,l⟩))/\Below w.heap.size w w':=by
 have HB:=q_ ((Below.refl w.heap.size w).alloc (n_) (.cells #[.int .u8 (d.f.toNat:Int),.int .u8 (d.c.toNat:Int),.int .u8 (d.r.toNat:Int),.int .u8 (d.e.toNat:Int),.int .u8 (d.s.toNat:Int),.slice A l.length c] 27));have hm:=aI.le;have HL:=q_ hl;have HS:=q_ hS;have VQ:=q_ (Ot ⟨d,l⟩);generalize M.valid ⟨d,l⟩=res at*;cases hv:P.valid d.list
 ·have HR:=q_ (show res=false from by rw[VQ.o];show(P.valid d.list&&_&&_&&_&&_)=false;rw[hv];rfl)
  have HV:=q_ hv;clear hv hl hS aI VQ;generalize l.length=n at*;go_enter Tryz.func9,Tryz.ntmps9;go_wp2_with fail;refine(nj d.f d.c d.r d.e d.s _).mono ?_
  rintro e w2 ⟨rfl,hb2⟩;rw[show P.valid [d.f,d.c,d.r,d.e,d.s]=false from HV.o];have B2:=q_ (HB.o.trans (hb2.mono HB.o.size));clear hb2;go_wp2_with fail;go_ret;exact⟨by rw[HR.o];rfl,B2.o⟩
 ·have ZA:=q_ (show res=(decide (1<=l.length)&&decide (l.length<=200)&&(l.zipIdx.all fun(s,i)=>M.lM i s)&&Aq ⟨d,l⟩) from by rw[VQ.o];show(P.valid d.list&&_&&_&&_&&_)=_;rw[hv];rfl)
  have HV:=q_ hv;clear hv VQ;have head:∀(b1 b2:Bool),decide ((l.length:Int)<1)=b1->decide ((200:Int)<(l.length:Int))=b2->True:=fun _ _ _ _=>trivial;by_cases h1:l.length<1
  ·have HR:=q_ (show res=false from by rw[ZA.o,decide_eq_false (by omega)];rfl)
   have t1:decide ((l.length:Int)<1)=true:=by simp;omega
   clear h1 hl hS aI ZA head;generalize l.length=n at*;go_enter Tryz.func9,Tryz.ntmps9;go_wp2_with fail;refine(nj d.f d.c d.r d.e d.s _).mono ?_
   rintro e w2 ⟨rfl,hb2⟩;rw[show P.valid [d.f,d.c,d.r,d.e,d.s]=true from HV.o];have B2:=q_ (HB.o.trans (hb2.mono HB.o.size));obtain⟨hc,hf⟩:=VU hb2;clear hb2;go_wp2_with fail;go_ret;exact⟨by rw[HR.o];rfl,B2.o⟩
  by_cases h2:200<l.length
  ·have HR:=q_ (show res=false from by rw[ZA.o,decide_eq_true (show 1<=l.length by omega),decide_eq_false (show¬l.length<=200 by omega)];rfl)
   have t1:decide ((l.length:Int)<1)=false:=by simp;omega
   have t2:decide ((200:Int)<(l.length:Int))=true:=by simp;omega
   clear h1 h2 hl hS aI ZA head;generalize l.length=n at*;go_enter Tryz.func9,Tryz.ntmps9;go_wp2_with fail;refine(nj d.f d.c d.r d.e d.s _).mono ?_
   rintro e w2 ⟨rfl,hb2⟩;rw[show P.valid [d.f,d.c,d.r,d.e,d.s]=true from HV.o];have B2:=q_ (HB.o.trans (hb2.mono HB.o.size));obtain⟨hc,hf⟩:=VU hb2;clear hb2;go_wp2_with fail;go_ret;exact⟨by rw[HR.o];rfl,B2.o⟩
  have VQ3:=q_ (show res=((l.zipIdx.all fun(s,i)=>M.lM i s)&&Aq ⟨d,l⟩) from by rw[ZA.o,decide_eq_true (show 1<=l.length by omega),decide_eq_true (show l.length<=200 by omega)];rfl);have t1:decide ((l.length:Int)<1)=false:=by simp;omega
  have t2:decide ((200:Int)<(l.length:Int))=false:=by simp;omega
  generalize Al:l.length=m at*;have HM:=q_ Al;clear hl hS aI ZA head Al;go_enter Tryz.func9,Tryz.ntmps9;go_wp2_with fail;refine(nj d.f d.c d.r d.e d.s _).mono ?_
  rintro e w2 ⟨rfl,hb2⟩;rw[show P.valid [d.f,d.c,d.r,d.e,d.s]=true from HV.o];have B2:=q_ (HB.o.trans (hb2.mono HB.o.size));have E2:=q_ ((ar.new w 27 #[.int .u8 (d.f.toNat:Int),.int .u8 (d.c.toNat:Int),.int .u8 (d.r.toNat:Int),.int .u8 (d.e.toNat:Int),.int .u8 (d.s.toNat:Int),.slice A m c]).below hb2 (by simp));have hc:=E2.o.cell;clear hb2;go_wp2_with fail;refine(Gq d _).mono ?_
  rintro e w3 ⟨rfl,hb3⟩;have E3:=q_ (E2.o.below hb3 E2.o.lt);have B3:=q_ (B2.o.trans (hb3.mono B2.o.size));clear hb3 hc E2 B2;generalize jam:M.uJ d=sg1 at*;generalize jan:M.uK d=sg2 at*;have Ou:=q_ (And.intro jam jan);clear jam jan;have e3a:=(E3.o.alloc (.cells #[.string sg1,.string sg2] 67)).cell;go_wp2_with fail;obtain⟨w4,hw4⟩:∃w4,w4=w3.alloc (.cells #[.string sg1,.string sg2] 67):=⟨_,rfl⟩
  rw[<-hw4];have E4:=q_ (show ar w4 w.heap.size 27 #[.int .u8 (d.f.toNat:Int),.int .u8 (d.c.toNat:Int),.int .u8 (d.r.toNat:Int),.int .u8 (d.e.toNat:Int),.int .u8 (d.s.toNat:Int),.slice A m c] from hw4▸E3.o.alloc _);have G4:=q_ (show ar w4 w3.heap.size 67 #[.string sg1,.string sg2] from hw4▸ar.new w3 _ _);have B4:=q_ (show Below w.heap.size w w4 from hw4▸B3.o.alloc B3.o.size _);clear hw4 E3 B3 e3a;have hE4:=E4.o.lt;have Xq:=G4.o.lt;go_loopw [29] (fun x wr=>∃k:Nat,k<=m/\x= .int .i64 k/\Below w4.heap.size w4 wr/\l4 l k=true) (fun x _=>m-(intOf x).toNat)
  case atStart=>exact⟨0,by omega,rfl,Below.refl _ _,Dd l⟩
  case round=>
   obtain⟨k,hk,rfl,bS,hso⟩:=hrel;have Ky:=q_ bS;have BW:=q_ (B4.o.trans (bS.mono B4.o.size));have HSO:=q_ hso;clear bS hso;by_cases hlt:k<m
   ·obtain⟨ad,x,u,v,rfl,hb,hx,hr,hc1,hc2⟩:=(HL.o.below BW.o HS.o).in2 rfl hlt
    obtain⟨A1,c1,e1,Jf,ee,dF⟩:=aX.inv hr;injection e1 with e1 e2;injection e2 with e2 _;subst e1 e2;have HX:=q_ hx;have Xr:=q_ dF;have nk:=q_ ee;clear hr hx dF ee;have kn:=fun W=>uR x.name W Jf;have je:=q_ (fun h=>show res=false from by rw[VQ3.o,Au HX.o h];rfl);have Av:=q_ (show M.lM k x=(M.isName x.name&&(M.bJ x.name M.x6==decide (k=0))&&M.fits x) from rfl);have hq:(x.name.toList==[77,83,72])=M.bJ x.name M.x6:=by simp[M.bJ,M.x6,M.T,ByteArray.toList_eq]
    have E5:=q_ (ar.new wr 48 #[.string x.name,.slice A1 x.fields.length c1]);have B5:=q_ (BW.o.alloc BW.o.size (.cells #[.string x.name,.slice A1 x.fields.length c1] 48));cases Ja:M.isName x.name with
    |false=>
     have HR:=q_ (je.o (by rw[Av.o,Ja];rfl));rw[Ja] at kn;have KN:=q_ kn;clear Ja je Av hq kn;go_wp2_with fail;refine(KN.o _).mono ?_
     rintro e w6 ⟨rfl,dw⟩;go_wp2_with fail;go_ret;rw[HR.o];exact⟨rfl,B5.o.trans (dw.mono B5.o.size)⟩
    |true=>
     rw[Ja] at kn;have KN:=q_ kn;clear kn;have T5:=q_ ((Below.refl wr.heap.size wr).alloc (n_) (.cells #[.string x.name,.slice A1 x.fields.length c1] 48));obtain⟨b1,hb1⟩:∃b,b=M.bJ x.name M.x6:=⟨_,rfl⟩
     obtain⟨b2,hb2⟩:∃b,b=decide (k=0):=⟨_,rfl⟩
     have r5:((k:Int)==0)=b2:=by
      rw[hb2];by_cases h:k=0
      ·subst h;rfl
      ·rw[decide_eq_false h,beq_eq_false_iff_ne];omega
     rw[<-hb1] at hq;have yh:=q_ (show M.lM k x=((b1==b2)&&M.fits x) by rw[Av.o,Ja,hb1,hb2];rfl);clear Ja Av hb1 hb2;by_cases Fx:b1=b2
     ·subst Fx
      have KF:=q_ (fun W (h:Below wr.heap.size wr W)=>Oo A1 c1 x S W (fun b hb=>l_ (HS.o b hb) (t_ BW.o.size h.size)) nk.o (Xr.o.dB h (fun b hb=>l_ (HS.o b hb) BW.o.size)));cases iR:M.fits x with
      |false=>
       have HR:=q_ (je.o (by rw[yh.o,iR,Bool.and_false]));rw[iR] at KF;clear iR je yh;cases b1
       all_goals
        go_wp2_with fail;refine(KN.o _).mono ?_
        rintro e w6 ⟨rfl,dw⟩;have c6:=(E5.o.below dw E5.o.lt).cell;have T6:=q_ (T5.o.trans (dw.mono T5.o.size));have B6:=q_ (B5.o.trans (dw.mono B5.o.size));have KF6:=KF.o w6 T6.o;clear dw;go_wp2_with fail;refine KF6.mono ?_;rintro e w7 ⟨rfl,gW⟩;have B7:=q_ (B6.o.trans (gW.mono B6.o.size));clear gW;go_wp2_with fail;go_ret;rw[HR.o];exact⟨rfl,B7.o⟩
      |true=>
       have qK:=q_ (show l4 l (k+1)=true by rw[Dc HX.o,HSO.o,yh.o,iR];simp);rw[iR] at KF;clear iR je yh;cases b1
       all_goals
        go_wp2_with fail;refine(KN.o _).mono ?_
        rintro e w6 ⟨rfl,dw⟩;have c6:=(E5.o.below dw E5.o.lt).cell;have T6:=q_ (T5.o.trans (dw.mono T5.o.size));have KF6:=KF.o w6 T6.o;clear dw;go_wp2_with fail;refine KF6.mono ?_;rintro e w7 ⟨rfl,gW⟩;have T7:=q_ (Ky.o.trans ((T6.o.trans (gW.mono T6.o.size)).mono Ky.o.size));clear gW;go_wp2_with fail;go_roundw
        case rel=>exact⟨k+1,by omega,by go_num,T7.o,qK.o⟩
        case measure=>simp[intOf];omega
     ·have HR:=q_ (je.o (by rw[yh.o,(beq_eq_false_iff_ne).2 Fx];rfl))
      have tW:b2= !b1:=by cases b1<;>cases b2<;>simp_all
      subst tW;clear Fx je yh;cases b1
      all_goals
       simp only[Bool.not_false,Bool.not_true] at r5;go_wp2_with fail;refine(KN.o _).mono ?_
       rintro e w6 ⟨rfl,dw⟩;have c6:=(E5.o.below dw E5.o.lt).cell;go_wp2_with fail;go_ret;rw[HR.o];exact⟨rfl,B5.o.trans (dw.mono B5.o.size)⟩
   ·obtain rfl:k=m:=by omega
    have HH0:=q_ (show res=Aq ⟨d,l⟩ by rw[VQ3.o,<-Gz,HM.o,HSO.o,Bool.true_and]);have e4:=(E4.o.below Ky.o hE4).cell;obtain⟨ad,x,u,v,rfl,hb,hx,hr,hc1,hc2⟩:=(HL.o.below BW.o HS.o).in2 rfl (show 0<k by omega);obtain⟨A1,c1,e1,Jf,ee,dF⟩:=aX.inv hr;injection e1 with e1 e2;injection e2 with e2 _;subst e1 e2;have had:ad.add 0=ad:=by unfold Addr.add;rw[if_pos rfl]
    rw[Nat.zero_mul,had] at hc1 hc2;have Xr:=q_ dF;have nk:=q_ ee
    have HH:=q_ (show res=match x.fields with|a::b::_=>M.fN a (M.uJ d)&&M.fN b (M.uK d)|_=>false by
     rw[HH0.o];cases l with
     |nil=>cases hx
     |cons y l=>
      simp at hx;subst hx;rfl)
    have jcN:0<k:=by omega
    have kY:=ee.1;have hk2:=ee.2.1;have hk3:=ee.2.2.2;clear hr hx dF ee HH0 HSO HM HL VQ3 Jf;obtain⟨nm,fs⟩:=x;simp only at*;cases fs with
    |nil=>
     go_wp2_with fail;refine aO 20 [] aj (fun _=>none) (by kernel_rfl) (by kernel_rfl) aj.refl (by simp) (aj.draw _) aj.trans (fun j φ v x y hB=>by cases hB) ?_
     iterate 20
      apply au rfl rfl
      ·intro vs wx hk K hK
       go_simp;exact hK _ (aj.refl _)
      intro KK af;go_simp;refine af _ ?_;clear af KK
     refine bg ?_;intro vs w5 hs5 _;intro KK af;simp only[List.drop_succ_cons,List.drop_nil];go_wp2_with fail;go_ret;exact⟨by rw[HH.o];rfl,BW.o.trans (Below.mono hs5 BW.o.size)⟩
    |cons a fs=>
     cases fs with
     |nil=>
      go_wp2_with fail;refine aO 20 [] aj (fun _=>none) (by kernel_rfl) (by kernel_rfl) aj.refl (by simp) (aj.draw _) aj.trans (fun j φ v x y hB=>by cases hB) ?_
      iterate 20
       apply au rfl rfl
       ·intro vs wx hk K hK
        go_simp;exact hK _ (aj.refl _)
       intro KK af;go_simp;refine af _ ?_;clear af KK
      refine bg ?_;intro vs w5 hs5 _;intro KK af;simp only[List.drop_succ_cons,List.drop_nil];go_wp2_with fail;go_ret;exact⟨by rw[HH.o];rfl,BW.o.trans (Below.mono hs5 BW.o.size)⟩
     |cons b r=>
      obtain⟨Oh,a',u0,rfl,hb0,ha',r6,hc0⟩:=Xr.o.in1 rfl (show 0<(a::b::r).length by simp);obtain⟨ad1',b',u1,e',hb1,hb',hr1,Xs⟩:=Xr.o.in1 rfl (show 1<(a::b::r).length by simp);cases e';simp at ha' hb';subst ha' hb';obtain⟨Aa,ca,rfl,GC,r7⟩:=aU.av r6;obtain⟨Ab,cb,rfl,Ov,GD⟩:=aU.av hr1;have hSw:∀b,S b->b<wr.heap.size:=fun b hb=>l_ (HS.o b hb) BW.o.size;have Kz:Oh.add 0=Oh:=by unfold Addr.add;rw[if_pos rfl]
      have jao:Oh.add 1=⟨Oh.block,Oh.off+1,none⟩:=by unfold Addr.add;rw[if_neg (by omega)]
      rw[Kz] at hc0;rw[jao] at Xs;have W0:=q_ (fun(W:World) (h:aj wr W)=>And.intro ((Below.cell h (p:=Oh) (hSw _ hb0)).trans hc0) ((Below.cell h (p:=⟨Oh.block,Oh.off+1,none⟩) (hSw _ hb0)).trans Xs));have k0:=fun(W:World) (h:aj wr W)=>Jd Aa ca a sg1 S W GC (r7.dB h hSw);have k1:=fun(W:World) (h:aj wr W)=>Jd Ab cb b sg2 S W Ov (GD.dB h hSw);have hh:=HH.o;simp only[Ou.o.1,Ou.o.2] at hh;clear HH r6 hr1 r7 GD hc0 Xs Xr nk;have hn2:2<=(a::b::r).length:=by simp
      generalize (a::b::r).length=n2 at*;have q2:decide ((2:Int)<=(n2:Int))=true:=by simp;omega
      have p0:0<n2:=by omega
      have p1:(1:Int)<(n2:Int):=by omega
      cases Nr:M.fN a sg1 with
      |false=>
       rw[Nr] at k0 hh;have K0:=q_ k0;have HH:=q_ hh;clear Nr k0 k1 hh;go_wp2_with fail;refine aO 20 [] aj (fun _=>none) (by kernel_rfl) (by kernel_rfl) aj.refl (by simp) (aj.draw _) aj.trans (fun j φ v x y hB=>by cases hB) ?_
       iterate 6
        apply au rfl rfl
        ·intro vs wx hk K hK
         go_simp;exact hK _ (aj.refl _)
        intro KK af;go_simp;refine af _ ?_;clear af KK
       apply au rfl rfl
       ·intro vs wx hk K hK
        have c0:=(W0.o wx hk.1).1;go_simp;exact hK _ (aj.refl _)
       intro KK af;go_simp;refine af _ ?_;clear af KK;apply au rfl rfl
       ·intro vs wx hk K hK
        go_simp;exact hK _ (aj.refl _)
       intro KK af;go_simp;refine af _ ?_;clear af KK;apply au rfl rfl
       ·intro vs wx hk K hK
        have g:=((G4.o.below Ky.o Xq).stays hk.1).cell;go_simp;exact hK _ (aj.refl _)
       intro KK af;go_simp;refine af _ ?_;clear af KK;apply au rfl rfl
       ·intro vs wx hk K hK
        have CC:=K0.o wx hk.1;go_simp
        first
         |exact hK _ (aj.refl _)
         |exact Calls.free hK (CC.mono fun e w' ⟨he,hw'⟩=>⟨he,hw'▸aj.refl _⟩)
       intro KK af;go_simp;refine af _ ?_;clear af KK
       iterate 10
        apply au rfl rfl
        ·intro vs wx hk K hK
         go_simp;exact hK _ (aj.refl _)
        intro KK af;go_simp;refine af _ ?_;clear af KK
       refine bg ?_;intro vs w5 hs5 _;intro KK af;simp only[List.drop_succ_cons,List.drop_nil];go_wp2_with fail;go_ret;exact⟨by rw[HH.o];rfl,BW.o.trans (Below.mono hs5 BW.o.size)⟩
      |true=>
       rw[Nr] at k0 hh;have K0:=q_ k0;clear Nr k0;cases Aw:M.fN b sg2 with
       |false=>
        rw[Aw] at k1 hh;have K1:=q_ k1;have HH:=q_ hh;clear Aw k1 hh;go_wp2_with fail;refine aO 20 [] aj (fun _=>none) (by kernel_rfl) (by kernel_rfl) aj.refl (by simp) (aj.draw _) aj.trans (fun j φ v x y hB=>by cases hB) ?_
        iterate 6
         apply au rfl rfl
         ·intro vs wx hk K hK
          go_simp;exact hK _ (aj.refl _)
         intro KK af;go_simp;refine af _ ?_;clear af KK
        apply au rfl rfl
        ·intro vs wx hk K hK
         have c0:=(W0.o wx hk.1).1;go_simp;exact hK _ (aj.refl _)
        intro KK af;go_simp;refine af _ ?_;clear af KK;apply au rfl rfl
        ·intro vs wx hk K hK
         go_simp;exact hK _ (aj.refl _)
        intro KK af;go_simp;refine af _ ?_;clear af KK;apply au rfl rfl
        ·intro vs wx hk K hK
         have g:=((G4.o.below Ky.o Xq).stays hk.1).cell;go_simp;exact hK _ (aj.refl _)
        intro KK af;go_simp;refine af _ ?_;clear af KK;apply au rfl rfl
        ·intro vs wx hk K hK
         have CC:=K0.o wx hk.1;go_simp
         first
          |exact hK _ (aj.refl _)
          |exact Calls.free hK (CC.mono fun e w' ⟨he,hw'⟩=>⟨he,hw'▸aj.refl _⟩)
        intro KK af;go_simp;refine af _ ?_;clear af KK
        iterate 4
         apply au rfl rfl
         ·intro vs wx hk K hK
          go_simp;exact hK _ (aj.refl _)
         intro KK af;go_simp;refine af _ ?_;clear af KK
        apply au rfl rfl
        ·intro vs wx hk K hK
         have c0:=(W0.o wx hk.1).2;go_simp;exact hK _ (aj.refl _)
        intro KK af;go_simp;refine af _ ?_;clear af KK;apply au rfl rfl
        ·intro vs wx hk K hK
         go_simp;exact hK _ (aj.refl _)
        intro KK af;go_simp;refine af _ ?_;clear af KK;apply au rfl rfl
        ·intro vs wx hk K hK
         have g:=((G4.o.below Ky.o Xq).stays hk.1).cell;go_simp;exact hK _ (aj.refl _)
        intro KK af;go_simp;refine af _ ?_;clear af KK;apply au rfl rfl
        ·intro vs wx hk K hK
         have CC:=K1.o wx hk.1;go_simp
         first
          |exact hK _ (aj.refl _)
          |exact Calls.free hK (CC.mono fun e w' ⟨he,hw'⟩=>⟨he,hw'▸aj.refl _⟩)
        intro KK af;go_simp;refine af _ ?_;clear af KK
        iterate 2
         apply au rfl rfl
         ·intro vs wx hk K hK
          go_simp;exact hK _ (aj.refl _)
         intro KK af;go_simp;refine af _ ?_;clear af KK
        refine bg ?_;intro vs w5 hs5 _;intro KK af;simp only[List.drop_succ_cons,List.drop_nil];go_wp2_with fail;go_ret;exact⟨by rw[HH.o];rfl,BW.o.trans (Below.mono hs5 BW.o.size)⟩
       |true=>
        rw[Aw] at k1 hh;have K1:=q_ k1;have HH:=q_ hh;clear Aw k1 hh;go_wp2_with fail;refine aO 20 [] aj (fun _=>none) (by kernel_rfl) (by kernel_rfl) aj.refl (by simp) (aj.draw _) aj.trans (fun j φ v x y hB=>by cases hB) ?_
        iterate 6
         apply au rfl rfl
         ·intro vs wx hk K hK
          go_simp;exact hK _ (aj.refl _)
         intro KK af;go_simp;refine af _ ?_;clear af KK
        apply au rfl rfl
        ·intro vs wx hk K hK
         have c0:=(W0.o wx hk.1).1;go_simp;exact hK _ (aj.refl _)
        intro KK af;go_simp;refine af _ ?_;clear af KK;apply au rfl rfl
        ·intro vs wx hk K hK
         go_simp;exact hK _ (aj.refl _)
        intro KK af;go_simp;refine af _ ?_;clear af KK;apply au rfl rfl
        ·intro vs wx hk K hK
         have g:=((G4.o.below Ky.o Xq).stays hk.1).cell;go_simp;exact hK _ (aj.refl _)
        intro KK af;go_simp;refine af _ ?_;clear af KK;apply au rfl rfl
        ·intro vs wx hk K hK
         have CC:=K0.o wx hk.1;go_simp
         first
          |exact hK _ (aj.refl _)
          |exact Calls.free hK (CC.mono fun e w' ⟨he,hw'⟩=>⟨he,hw'▸aj.refl _⟩)
        intro KK af;go_simp;refine af _ ?_;clear af KK
        iterate 4
         apply au rfl rfl
         ·intro vs wx hk K hK
          go_simp;exact hK _ (aj.refl _)
         intro KK af;go_simp;refine af _ ?_;clear af KK
        apply au rfl rfl
        ·intro vs wx hk K hK
         have c0:=(W0.o wx hk.1).2;go_simp;exact hK _ (aj.refl _)
        intro KK af;go_simp;refine af _ ?_;clear af KK;apply au rfl rfl
        ·intro vs wx hk K hK
         go_simp;exact hK _ (aj.refl _)
        intro KK af;go_simp;refine af _ ?_;clear af KK;apply au rfl rfl
        ·intro vs wx hk K hK
         have g:=((G4.o.below Ky.o Xq).stays hk.1).cell;go_simp;exact hK _ (aj.refl _)
        intro KK af;go_simp;refine af _ ?_;clear af KK;apply au rfl rfl
        ·intro vs wx hk K hK
         have CC:=K1.o wx hk.1;go_simp
         first
          |exact hK _ (aj.refl _)
          |exact Calls.free hK (CC.mono fun e w' ⟨he,hw'⟩=>⟨he,hw'▸aj.refl _⟩)
        intro KK af;go_simp;refine af _ ?_;clear af KK
        iterate 2
         apply au rfl rfl
         ·intro vs wx hk K hK
          go_simp;exact hK _ (aj.refl _)
         intro KK af;go_simp;refine af _ ?_;clear af KK
        refine bg ?_;intro vs w5 hs5 _;intro KK af;simp only[List.drop_succ_cons,List.drop_nil];go_wp2_with fail;go_ret;exact⟨by rw[HH.o];rfl,BW.o.trans (Below.mono hs5 BW.o.size)⟩
end
section
open Go Go.RowKit Go.BigFrame
def jap(e:Ending):Prop:=∃b,e= .returned (.bool b)
theorem KH(d:M.bR)(A:Option Addr)(c:Nat)(l:List M.Seg)(S:Nat->Prop)(w:World)(hS:∀b,S b->b<w.heap.size)(aI:bX A l.length c)(hl:bn aX w S A l.length l):
 Calls Tryz.prog 5 #[.agg #[.int .u8 (d.f.toNat:Int),.int .u8 (d.c.toNat:Int),.int .u8 (d.r.toNat:Int),.int .u8 (d.e.toNat:Int),.int .u8 (d.s.toNat:Int),.slice A l.length c]] w fun e w'=>jap e/\Below w.heap.size w w':=by
 have hm:=aI.le;have hb:=(Below.refl w.heap.size w).alloc (n_) (.cells #[.int .u8 (d.f.toNat:Int),.int .u8 (d.c.toNat:Int),.int .u8 (d.r.toNat:Int),.int .u8 (d.e.toNat:Int),.int .u8 (d.s.toNat:Int),.slice A l.length c] 27);have e0:=(ar.new w 27 #[.int .u8 (d.f.toNat:Int),.int .u8 (d.c.toNat:Int),.int .u8 (d.r.toNat:Int),.int .u8 (d.e.toNat:Int),.int .u8 (d.s.toNat:Int),.slice A l.length c]).cell;have HL0:=q_ (hl.below hb hS);have HB:=q_ hb;obtain⟨w1,bu⟩:∃w1,w1=w.alloc (.cells #[.int .u8 (d.f.toNat:Int),.int .u8 (d.c.toNat:Int),.int .u8 (d.r.toNat:Int),.int .u8 (d.e.toNat:Int),.int .u8 (d.s.toNat:Int),.slice A l.length c] 27):=⟨_,rfl⟩
 rw[<-bu] at HL0 HB e0;have HW:=q_ bu;generalize l.length=m at*;clear hl hb aI hS bu;go_enter Tryz.func5,Tryz.ntmps5;go_wp2_with fail;rw[<-HW.o];clear HW;go_loopw [3,4] (fun n i wr=>∃(z:Int) (k:Nat),n= .int .i64 z/\i= .int .i64 k/\k<=m/\wr=w1) (fun _ i _=>m-(intOf i).toNat)
 case atStart=>exact⟨0,0,rfl,rfl,by omega,rfl⟩
 case round=>
  obtain⟨z,k,rfl,rfl,hk,rfl⟩:=hrel;by_cases hlt:k<m
  ·by_cases hz:z<=6000
   ·obtain⟨ad,x,u,v,rfl,hb,hx,hr,hc1,hc2⟩:=HL0.o.in2 rfl hlt
    obtain⟨A1,c1,e1,Jf,ee,dF⟩:=aX.inv hr;injection e1 with e1 e2;injection e2 with e2 _;subst e1 e2;have VV:=ee.le;have Xr:=q_ dF;clear hx hr dF ee Jf;generalize x.fields=fs at*;generalize fs.length=m1 at*;go_wp2_with fail;go_loopw [3,5] (fun n i wr2=>∃(z:Int) (q:Nat),n= .int .i64 z/\i= .int .i64 q/\q<=m1/\wr2=wr) (fun _ i _=>m1-(intOf i).toNat)
    case atStart=>exact⟨_,0,rfl,rfl,by omega,rfl⟩
    case round=>
     obtain⟨z1,q,rfl,rfl,hq,rfl⟩:=hrel;by_cases di:q<m1
     ·skip
      obtain⟨Oh,f1,u1,rfl,hb1,hx1,hr1,jbP⟩:=Xr.o.in1 rfl di;obtain⟨A2,c2,rfl,oJ,hl2⟩:=aU.av hr1;have xt:=oJ.le;have HL2:=q_ hl2;clear hx1 hr1 hl2 oJ;generalize f1.length=m2 at*;go_wp2_with fail;go_loopw [3,6] (fun n i wr2=>∃(z:Int) (o:Nat),n= .int .i64 z/\i= .int .i64 o/\o<=m2/\wr2=wr) (fun _ i _=>m2-(intOf i).toNat)
      case atStart=>exact⟨_,0,rfl,rfl,by omega,rfl⟩
      case round=>
       obtain⟨z2,o,rfl,rfl,ho,rfl⟩:=hrel;by_cases jS:o<m2
       ·skip
        obtain⟨ad2,f2,u2,rfl,hb2,hx2,hr2,Ow⟩:=HL2.o.in1 rfl jS;obtain⟨A3,c3,rfl,ly,KJ⟩:=aU.av hr2;have Xt:=ly.le;have HL3:=q_ KJ;clear hx2 hr2 KJ ly;generalize f2.length=m3 at*;go_wp2_with fail;go_loopw [3,7] (fun n i wr2=>∃(z:Int) (y:Nat),n= .int .i64 z/\i= .int .i64 y/\y<=m3/\wr2=wr) (fun _ i _=>m3-(intOf i).toNat)
        case atStart=>exact⟨_,0,rfl,rfl,by omega,rfl⟩
        case round=>
         obtain⟨z3,y,rfl,rfl,hy,rfl⟩:=hrel;by_cases Xu:y<m3
         ·skip
          obtain⟨ad3,f3,u3,rfl,hb3,hx3,hr3,jbQ⟩:=HL3.o.in1 rfl Xu;obtain⟨A4,c4,rfl,KU,hl4⟩:=aU.av hr3;have hm4:=KU.le;clear hx3 hr3 hl4 KU;generalize f3.length=m4 at*;go_wp2_with fail;go_roundw
          case rel=>exact⟨_,y+1,rfl,by go_num,by omega,by trivial⟩
          case measure=>simp[intOf];omega
         ·go_wp2_with fail
          go_roundw
          case rel=>exact⟨_,o+1,rfl,by go_num,by omega,by trivial⟩
          case measure=>simp[intOf];omega
       ·go_wp2_with fail
        go_roundw
        case rel=>exact⟨_,q+1,rfl,by go_num,by omega,by trivial⟩
        case measure=>simp[intOf];omega
     ·go_wp2_with fail
      go_roundw
      case rel=>exact⟨_,k+1,rfl,by go_num,by omega,by trivial⟩
      case measure=>simp[intOf];omega
   ·go_wp2_with fail
    go_ret;exact⟨⟨_,rfl⟩,HB.o⟩
  ·go_wp2_with fail
   go_ret;exact⟨⟨_,rfl⟩,HB.o⟩
theorem KY:Tryz.prog.stoodInHeld 127=false:=by kernel_rfl
theorem r8:∃g0 g1 g2 g3 g4 g5:Field,Tryz.prog.underlying 127=some (.struct #[g0,g1,g2,g3,g4,g5])/\(g0.type=9/\g0.offset=0/\(g0.name≠ "_"))/\(g1.type=3/\g1.offset=1/\(g1.name≠ "_"))/\(g2.type=3/\g2.offset=2/\(g2.name≠ "_"))/\(g3.type=3/\g3.offset=3/\(g3.name≠ "_"))/\(g4.type=3/\g4.offset=4/\(g4.name≠ "_"))/\(g5.type=3/\g5.offset=5/\(g5.name≠ "_")):=
 ⟨_,_,_,_,_,_,Tryz.underlying127,⟨rfl,rfl,by decide⟩,⟨rfl,rfl,by decide⟩,⟨rfl,rfl,by decide⟩,⟨rfl,rfl,by decide⟩,⟨rfl,rfl,by decide⟩,⟨rfl,rfl,by decide⟩⟩
theorem Oy(s:ByteArray)(o a b c d:Int)(W:World):(binOp .eql 127 (.agg #[.string s,.int .i64 o,.int .i64 a,.int .i64 b,.int .i64 c,.int .i64 d]) (.agg #[.string s,.int .i64 o,.int .i64 0,.int .i64 0,.int .i64 0,.int .i64 0])).run Tryz.prog W= .ok (.bool (decide (a=0/\b=0/\c=0/\d=0))) W:=by
 obtain⟨g0,g1,g2,g3,g4,g5,hu,⟨t0,o0,n0⟩,⟨t1,o1,n1⟩,⟨t2,o2,n2⟩,⟨t3,o3,n3⟩,⟨t4,o4,n4⟩,⟨t5,o5,n5⟩⟩:=r8;have hf:Tryz.prog.fieldsOf 127=#[g0,g1,g2,g3,g4,g5]:=by simp[Program.fieldsOf,hu]
 rw[run_eql_struct,run_equalIn_struct W 9999 _ _ _ (by rw[hu,hf]) KY,hf];by_cases h0:a=0<;>by_cases h1:b=0<;>by_cases h2:c=0<;>by_cases h3:d=0<;>simp[Op.eqFields,n0,n1,n2,n3,n4,n5,t0,t1,t2,t3,t4,t5,o0,o1,o2,o3,o4,o5,go_sem,h0,h1,h2,h3]
theorem Oz(n:Int)(w:World):Calls Tryz.prog 266 #[.int .i64 n] w fun e w'=>e= .returned (.bool (M.CO n))/\Below w.heap.size w w':=by
 go_enter Tryz.func266,Tryz.ntmps266;by_cases h1:1<=n
 ·have q1:decide (1<=n)=true:=by simp[h1]
  by_cases h2:n<=200
  ·have q2:decide (n<=200)=true:=by simp[h2]
   go_wp2;go_ret;exact⟨by simp[M.CO,h1,h2],Below.refl _ _⟩
  ·have q2:decide (n<=200)=false:=by simp[h2]
   go_wp2;go_ret;exact⟨by simp[M.CO,h1];omega,Below.refl _ _⟩
 ·have q1:decide (1<=n)=false:=by simp[h1]
  go_wp2;go_ret;exact⟨by simp[M.CO];omega,Below.refl _ _⟩
theorem gp(p:M.Path)(w:World)(hs:p.aN.size<=1048576):
 Calls Tryz.prog 205 #[.agg #[.string p.aN,.int .i64 p.aP,.int .i64 p.aR,.int .i64 p.rep,.int .i64 p.comp,.int .i64 p.sub]] w fun e w'=>e= .returned (.bool (M.bM p))/\Below w.heap.size w w':=by
 have KN:=q_ (fun(w':World)=>uR p.aN w' hs);have KI:=q_ (fun(w':World) (n:Int)=>Oz n w');have te:=Oy p.aN p.aP p.aR p.rep p.comp p.sub;obtain⟨w1,bu⟩:∃w1,w1=w.alloc (.cells #[.string p.aN,.int .i64 p.aP,.int .i64 p.aR,.int .i64 p.rep,.int .i64 p.comp,.int .i64 p.sub] 127):=⟨_,rfl⟩
 have E1:=q_ (show ar w1 w.heap.size 127 #[.string p.aN,.int .i64 p.aP,.int .i64 p.aR,.int .i64 p.rep,.int .i64 p.comp,.int .i64 p.sub] from bu▸ar.new w _ _);have B1:=q_ (show Below w.heap.size w w1 from bu▸(Below.refl _ w).alloc (n_) _);have hz1:w.heap.size+1<=w1.heap.size:=by rw[bu];simp
 go_enter Tryz.func205,Tryz.ntmps205;go_wp2_with fail;rw[<-bu];have z1:=(E1.o.below (Below.refl w1.heap.size w1) (by omega)).cell;clear bu;have G1:=q_ (Below.refl w1.heap.size w1);refine(KN.o _).mono ?_
 rintro _ w2 ⟨rfl,hb⟩;have B2:=q_ (B1.o.trans (hb.mono B1.o.size));have G2:=q_ (G1.o.trans (hb.mono G1.o.size));have z1:=(E1.o.below G2.o (by omega)).cell;clear hb;cases hN:M.isName p.aN
 ·go_wp2_with fail
  go_ret;exact⟨by simp[M.bM,hN],B2.o⟩
 ·go_wp2_with fail
  refine(KI.o _ _).mono ?_
  rintro _ w3 ⟨rfl,hb⟩;have B3:=q_ (B2.o.trans (hb.mono B2.o.size));have G3:=q_ (G2.o.trans (hb.mono G2.o.size));have z1:=(E1.o.below G3.o (by omega)).cell;clear hb;cases hO:M.CO p.aP
  ·go_wp2_with fail
   go_ret;exact⟨by simp[M.bM,hN,hO],B3.o⟩
  ·by_cases hz:p.aR=0/\p.rep=0/\p.comp=0/\p.sub=0
   ·have qz:decide (p.aR=0/\p.rep=0/\p.comp=0/\p.sub=0)=true:=decide_eq_true hz
    go_wp2_with fail;go_ret;exact⟨by simp[M.bM,hN,hO,hz],B3.o⟩
   ·have qz:decide (p.aR=0/\p.rep=0/\p.comp=0/\p.sub=0)=false:=decide_eq_false hz
    go_wp2_with fail;refine(KI.o _ _).mono ?_
    rintro _ w4 ⟨rfl,hb⟩;have B4:=q_ (B3.o.trans (hb.mono B3.o.size));have G4:=q_ (G3.o.trans (hb.mono G3.o.size));have z1:=(E1.o.below G4.o (by omega)).cell;clear hb;cases h0:M.CO p.aR
    ·go_wp2_with fail
     go_ret;exact⟨by simp[M.bM,hN,hO,qz,h0],B4.o⟩
    ·go_wp2_with fail
     refine(KI.o _ _).mono ?_
     rintro _ w5 ⟨rfl,hb⟩;have B5:=q_ (B4.o.trans (hb.mono B4.o.size));have G5:=q_ (G4.o.trans (hb.mono G4.o.size));have z1:=(E1.o.below G5.o (by omega)).cell;clear hb;cases h1:M.CO p.rep
     ·go_wp2_with fail
      go_ret;exact⟨by simp[M.bM,hN,hO,qz,h0,h1],B5.o⟩
     ·go_wp2_with fail
      refine(KI.o _ _).mono ?_
      rintro _ w6 ⟨rfl,hb⟩;have B6:=q_ (B5.o.trans (hb.mono B5.o.size));have G6:=q_ (G5.o.trans (hb.mono G5.o.size));have z1:=(E1.o.below G6.o (by omega)).cell;clear hb;cases h2:M.CO p.comp
      ·go_wp2_with fail
       go_ret;exact⟨by simp[M.bM,hN,hO,qz,h0,h1,h2],B6.o⟩
      ·go_wp2_with fail
       refine(KI.o _ _).mono ?_
       rintro _ w7 ⟨rfl,hb⟩;have B7:=q_ (B6.o.trans (hb.mono B6.o.size));have G7:=q_ (G6.o.trans (hb.mono G6.o.size));have z1:=(E1.o.below G7.o (by omega)).cell;clear hb;cases h3:M.CO p.sub
       ·go_wp2_with fail
        go_ret;exact⟨by simp[M.bM,hN,hO,qz,h0,h1,h2,h3],B7.o⟩
       ·go_wp2_with fail
        go_ret;exact⟨by simp[M.bM,hN,hO,qz,h0,h1,h2,h3],B7.o⟩
end
end Go.Proofs.YtpohlhkgbmdieaaGreatDoor
