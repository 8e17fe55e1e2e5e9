/- Part 45 of the proof. -/
import Derived.Test.YtnocnbklhikmnaaGreatDoorW41
import Derived.Test.YtnocnbklhikmnaaGreatDoorW43
import Derived.Test.YtnocnbklhikmnaaGreatDoorW44
set_option linter.unusedVariables false
set_option maxRecDepth 1000000
set_option maxHeartbeats 16000000
namespace Go.Proofs.YtnocnbklhikmnaaGreatDoor
variable{F:Nat}
open Go Go.RowKit Go.BigFrame Go.Maps Go.WideMaps
theorem ex_all:∀d,ExOk d
 |0=>ex_zero
 |d+1=>eexpr_any d (ex_all d) (eca_any d (ex_all d) (vals_all d)) (vals_all d)
theorem eplayedE_any(a b c:Addr)(w:World)(Mu:Nat->Prop)(Q:Int->World->Prop)(hMu:∀q,Mu q->q<w.heap.size)(hdo:∀w1,Below w.heap.size w w1->Calls Tryz.prog 27 #[.pointer (some a),.pointer (some b),.pointer (some c)] w1 fun e w'=>Turns Mu w1 w'/\∃k,Q k w'/\((k=0/\e= .returned (.tuple #[]))\/(k≠0/\e=panE k))):
 Calls Tryz.prog 26 #[.func (.func 27) #[] #[.pointer (some a),.pointer (some b),.pointer (some c)]] w fun e w'=>∃k w2,e= .returned (.int .i64 k)/\Q k w2/\Turns Mu w w2/\Turns (fun q=>q=w.heap.size) w2 w'/\(k=0->Below w2.heap.size w2 w'):=by
 have hmf:∀(fn:Fn) (first cap:Array Value) (w:World),(Instr.makeFunc fn first cap).run Tryz.prog w= .ok (.func fn first cap) w:=fun _ _ _ _=>rfl;have HDO:=q_ hdo;clear hdo;have A1:=q_ (Blk.new w 30 #[.int .i64 0]);have s0:(w.alloc (.cells #[.int .i64 0] 30)).heap.size=w.heap.size+1:=by simp
 have B1:=q_ ((Below.refl _ w).alloc (n_) (.cells #[.int .i64 0] 30));go_enter_defers Tryz.func26,Tryz.ntmps26;go_wp2_with fail;generalize w.alloc (.cells #[.int .i64 0] 30)=w1 at A1 s0 B1⊢;refine(HDO.o _ B1.o).mono ?_
 rintro e w2 ⟨ht,k,hq,⟨rfl,rfl⟩|⟨hk,rfl⟩⟩
 ·have A2:=q_ (ht.blk A1.o (fun h=>by have:=hMu _ h;omega))
  have za:=A2.o.cell;have fa:=A2.o.frozen;have T2:=q_ ((Turns.of (Mu:=Mu) B1.o).trans ht (fun _ _ h=>h));have HQ:=q_ hq;clear ht s0 hq;go_wp2;refine leaves_cons (f:=87) (args:=#[.pointer (some ⟨w.heap.size,0,none⟩)]) (by simp) (by simp[go_sem]) ?_;refine(ecatch_idle _ _).mono ?_
  rintro e u' w3 ⟨rfl,rfl,h3⟩;have A3:=A2.o.one_set (.int .i64 0);have T3:=q_ (show Turns (fun q=>q=w.heap.size) w2 (w2.setCell ⟨w.heap.size,0,none⟩ (.int .i64 0)) from(Turns.refl _ w2).grown (fun _=>rfl) (grown_set w2 w.heap.size 0 (.int .i64 0)));rw[<-h3] at A3 T3;have z1:w3.cell? ⟨w.heap.size,0,none⟩=some (.int .i64 0):=A3.cell 0;clear h3 za fa;simp[Leaves,settle,results,Tryz.results26,go_sem,z1]
  exact⟨w2,HQ.o,T2.o,T3.o,⟨T3.o.os,T3.o.tape,T3.o.output,T3.o.size,fun b hb=>by
   by_cases h:b=w.heap.size
   ·subst h;exact A3.trans A2.o.symm
   ·exact T3.o.block b hb h⟩⟩
 ·have A2:=q_ (ht.blk A1.o (fun h=>by have:=hMu _ h;omega))
  have T2:=q_ ((Turns.of (Mu:=Mu) B1.o).trans ht (fun _ _ h=>h));have HQ:=q_ hq;have HK:=q_ hk;clear ht s0 hq hk;unfold panE;go_wp2;refine leaves_cons (f:=87) (args:=#[.pointer (some ⟨w.heap.size,0,none⟩)]) (by simp) (by simp[go_sem]) ?_;refine(ecatch_errno _ k _ _ A2.o).mono ?_
  rintro e u' w3 ⟨rfl,rfl,ht3,ha3⟩;have T3:=q_ ht3;have z1:w3.cell? ⟨w.heap.size,0,none⟩=some (.int .i64 k):=ha3.cell 0;clear ht3 ha3;simp[Leaves,settle,results,Tryz.results26,go_sem,z1];exact⟨w2,HQ.o,T2.o,T3.o,fun h=>absurd h HK.o⟩
def EE1(g vb:Nat)(p:PV)(F:Nat)(w:World)(r:Except Int M.Val×Nat)(e:Ending)(w':World):Prop:=Turns (fun b=>b=g\/b=vb) w w'/\Blk w' g 77 (p.cells F r.2)/\match r.1 with
 | .ok v=>e= .returned (.tuple #[])/\Blk w' vb 37 #[.int .i64 v.kind,.string v.text,.int .i64 v.num,.bool v.truth]
 | .error er=>e=panE er
theorem expr1_any{w:World}{g pb nb vb:Nat}{S:Nat->Prop}{c:M.Cx}{st:M.St}{p:PV}{t:M.Tree}{A:Option Addr}{cap:Nat}{N:Nat->Prop}{k:Int}(h1:Blk w pb 71 #[.pointer (some ⟨g,0,none⟩)])(h2:Blk w nb 29 #[.slice A (M.flat t).length cap])(h3:Blk w vb 37 #[.int .i64 0,.string ⟨#[]⟩,.int .i64 0,.bool false])(hT:M.okT 20 3 t=true)(hwf:M.wfT t)(hkind:M.kindE (tnames c.tables) [] 20 false t= .ok k)(hp:PlIn w g (fun b=>b=g) S c st p [])(hgb:Blk w g 77 (p.cells F 0))(hne:vb≠g)(hF:F<=2000)(hN:∀b,N b->b<w.heap.size/\¬b=g)(hok:SOk A (M.flat t).length cap)(hl:LAt ENode w N A (M.flat t).length (M.flat t)):
 Calls Tryz.prog 27 #[.pointer (some ⟨pb,0,none⟩),.pointer (some ⟨nb,0,none⟩),.pointer (some ⟨vb,0,none⟩)] w (EE1 g vb p F w (M.cut F 0 (M.evalE c st.m st.scopes 20 t))):=by
 have K:=q_ (ex_all 20 t g _ S N c st p [] F 0 [] false k A cap w hT hwf hkind hp hgb hF (Nat.zero_le _) hN hok hl);have z1:=h1.cell;have z2:=h2.cell;have V1:=q_ h3;have HG:=q_ hgb.lt;clear h1 h2 h3 hT hwf hkind hp hgb hN hok hl;generalize M.cut F 0 (M.evalE c st.m st.scopes 20 t)=r at K⊢;go_enter Tryz.func27,Tryz.ntmps27;go_wp2_with fail;refine K.o.mono ?_;rintro e w2 ⟨ho,hk,he⟩;obtain⟨r,u⟩:=r;have O2:=q_ ho;have K2:=q_ hk;have V2:=q_ (ho.blk V1.o (show vb≠g from hne));have T2:=q_ (Turns.wide (Mu':=fun b=>b=g\/b=vb) ho (fun b _ e=> .inl e));have hvl:=V2.o.lt;have hs2:=ho.size;have hvl1:=V1.o.lt;clear ho hk z1 z2 K;cases r with
 |error er=>
  obtain rfl:=he;unfold valE panE at*;go_wp2;exact⟨rfl,T2.o,K2.o,rfl⟩
 |ok v=>
  obtain rfl:=he;unfold valE at*;go_wp2_with (refine wpList_store_V rfl (.tmp 2) (.tmp 5) rfl vb v (by rfl) (by rfl) V2.o rfl ?_;intro w9 k9 g9;have K9:=q_ k9;have G9:=q_ g9;clear k9 g9);go_end0;exact⟨T2.o.grown (fun _=> .inr rfl) G9.o,K2.o.grownAt G9.o (Ne.symm hne),rfl,K9.o⟩
def OutP(w:World)(r:Except Int M.Val×Nat)(e:Ending)(w':World):Prop:=Below w.heap.size w w'/\match r.1 with
 | .ok v=>e= .returned (.tuple #[.agg (outCells M.zeroD (.slice none 0 0) (.slice none 0 0) false v (r.2:Nat)),.int .i64 0])
 | .error er=>e= .returned (.tuple #[.agg (outCells M.zeroD (.slice none 0 0) (.slice none 0 0) false M.vNone (r.2:Nat)),.int .i64 er])
theorem M.cut_errs2{c:M.Cx}{m:M.Msg}{sc:List M.Scope}{d:Nat}{t:M.Tree}{u k:Nat}{e:Int}(h:M.cut F u (M.evalE c m sc d t)=(.error e,k)):e≠0:=by
 unfold M.cut at h;split at h
 ·injection h with h1 h2
  exact M.evalE_err c m sc d t e _ (Prod.ext h1 rfl)
 ·injection h with h1 h2
  cases h1;decide
def outZ2:Array Value:=#[.int .u8 0,.int .u8 0,.int .u8 0,.int .u8 0,.int .u8 0,.slice none 0 0,.slice none 0 0,.bool false,.int .i64 0,.string ⟨#[]⟩,.int .i64 0,.bool false,.int .i64 0]
theorem evalExpr_any(n:List M.Node)(A:Option Addr)(c:Nat)(m:M.Msg)(mA:Option Addr)(mc:Nat)(S:Nat->Prop)(w:World)(kd:Int)(hv:M.valid m=true)(hkn:M.kindN n= .ok kd)(hS:∀b,S b->b<w.heap.size)(hok:SOk A n.length c)(hl:LAt ENode w S A n.length n)(hmok:SOk mA m.segs.length mc)(hml:LAt ESeg w S mA m.segs.length m.segs)(hmx:2<w.heap.size/\∃z,w.cell? ⟨2,0,none⟩=some (.int .i64 z)):
 Calls Tryz.prog 9 #[.slice A n.length c,.agg #[.int .u8 (m.d.f.toNat:Int),.int .u8 (m.d.c.toNat:Int),.int .u8 (m.d.r.toNat:Int),.int .u8 (m.d.e.toNat:Int),.int .u8 (m.d.s.toNat:Int),.slice mA m.segs.length mc],.slice none 0 0,.string ⟨#[]⟩,.int .i64 2000] w (OutP w (M.cut 2000 0 (M.evalE ⟨[],⟨#[]⟩⟩ (M.canon m) [] 20 (M.exprOf n)))):=by
 have HS:=q_ hS;have OKN:=q_ hok;have HLN:=q_ hl;have OKM:=q_ hmok;have HLM:=q_ hml;have HMX:=q_ hmx;have HV:=q_ hv;have HKN:=q_ hkn;clear hS hok hl hmok hml hmx hv hkn;have hmf:∀(fn:Fn) (first cap:Array Value) (w:World),(Instr.makeFunc fn first cap).run Tryz.prog w= .ok (.func fn first cap) w:=fun _ _ _ _=>rfl;obtain⟨w1,hw1⟩:∃w1,w1=((w.alloc (.cells #[.slice A n.length c] 29)).alloc (.cells #[.int .u8 (m.d.f.toNat:Int),.int .u8 (m.d.c.toNat:Int),.int .u8 (m.d.r.toNat:Int),.int .u8 (m.d.e.toNat:Int),.int .u8 (m.d.s.toNat:Int),.slice mA m.segs.length mc] 26)).alloc (.cells outZ2 39):=⟨_,rfl⟩
 have s1:(w.alloc (.cells #[.slice A n.length c] 29)).heap.size=w.heap.size+1:=by simp
 have s2:((w.alloc (.cells #[.slice A n.length c] 29)).alloc (.cells #[.int .u8 (m.d.f.toNat:Int),.int .u8 (m.d.c.toNat:Int),.int .u8 (m.d.r.toNat:Int),.int .u8 (m.d.e.toNat:Int),.int .u8 (m.d.s.toNat:Int),.slice mA m.segs.length mc] 26)).heap.size=w.heap.size+1+1:=by simp
 have NB1:=q_ (show Blk w1 w.heap.size 29 #[.slice A n.length c] from hw1▸((Blk.new w _ _).alloc _).alloc _);have MB1:=q_ (show Blk w1 (w.heap.size+1) 26 #[.int .u8 (m.d.f.toNat:Int),.int .u8 (m.d.c.toNat:Int),.int .u8 (m.d.r.toNat:Int),.int .u8 (m.d.e.toNat:Int),.int .u8 (m.d.s.toNat:Int),.slice mA m.segs.length mc] from hw1▸(s1▸Blk.new _ _ _:Blk _ (w.heap.size+1) _ _).alloc _);have OB1:=q_ (show Blk w1 (w.heap.size+1+1) 39 outZ2 from hw1▸s2▸Blk.new _ _ _);have B1:=q_ (show Below w.heap.size w w1 from hw1▸(((Below.refl _ w).alloc (n_) _).alloc (by omega) _).alloc (by omega) _);have hw1':=hw1.symm;unfold outZ2 at hw1';clear hw1 s1 s2;go_enter Tryz.func9,Tryz.ntmps9;have zm:=MB1.o.cell;go_wp2_with fail;clear hw1' zm;refine(tValid_any m.d mA mc m.segs S w1 (fun b hb=>Nat.lt_of_lt_of_le (HS.o b hb) B1.o.size) OKM.o (HLM.o.below B1.o HS.o)).mono ?_
 rintro e w2 ⟨rfl,hb2⟩;rw[show M.valid ⟨m.d,m.segs⟩=true from HV.o];have B2:=q_ (B1.o.trans (hb2.mono B1.o.size));have NB2:=q_ (NB1.o.below hb2 NB1.o.lt);have MB2:=q_ (MB1.o.below hb2 MB1.o.lt);have OB2:=q_ (OB1.o.below hb2 OB1.o.lt);have hz2:w.heap.size+3<=w2.heap.size:=by have:=OB2.o.lt;omega
 have z2:=NB2.o.cell;clear hb2 NB1 MB1 OB1 B1;go_wp2_with fail;refine(checkExpr_any n A c S w2 (fun b hb=>Nat.lt_of_lt_of_le (HS.o b hb) B2.o.size) OKN.o (HLN.o.below B2.o HS.o)).mono ?_
 rintro e w3 ⟨hb3,he⟩;rw[HKN.o] at he;obtain rfl:=he;have B3:=q_ (B2.o.trans (hb3.mono B2.o.size));have NB3:=q_ (NB2.o.below hb3 NB2.o.lt);have MB3:=q_ (MB2.o.below hb3 MB2.o.lt);have OB3:=q_ (OB2.o.below hb3 OB2.o.lt);have hz3:w.heap.size+3<=w3.heap.size:=by have:=hb3.size;omega
 have zm:=MB3.o.cell;clear hb3 z2 NB2 MB2 OB2 B2 hz2;go_wp2_with fail;refine(newPlayer_any m.d mA mc m.segs S (.slice none 0 0) ⟨#[]⟩ 2000 w3 OKM.o (HLM.o.below B3.o HS.o) (fun b hb=>Nat.lt_of_lt_of_le (HS.o b hb) B3.o.size) ⟨_,_,_,rfl⟩).mono ?_
 rintro e w4 ⟨hb4,g,A2,c2,rfl,hg4,hk4,hok4,hl4⟩;rw[show M.canon ⟨m.d,m.segs⟩=M.canon m from rfl] at hk4 hok4 hl4;rw[show M.fuelOf 2000=2000 by decide] at hk4;have G4:=q_ hk4;have OK4:=q_ hok4;have L4:=q_ hl4;have B4:=q_ (B3.o.trans (hb4.mono B3.o.size));have NB4:=q_ (NB3.o.below hb4 NB3.o.lt);have OB4:=q_ (OB3.o.below hb4 OB3.o.lt);have hg4':=hk4.lt;have hs34:=hb4.size;clear hb4 hk4 hok4 hl4 zm NB3 MB3 OB3;go_upto_region 8 with fail;have s5:(w4.alloc (.cells #[.pointer (some ⟨g,0,none⟩)] 71)).heap.size=w4.heap.size+1:=by simp
 have PB6:=q_ ((Blk.new w4 71 #[.pointer (some ⟨g,0,none⟩)]).alloc (.cells #[.int .i64 0,.string ⟨#[]⟩,.int .i64 0,.bool false] 37));have VB6:=q_ (Blk.new (w4.alloc (.cells #[.pointer (some ⟨g,0,none⟩)] 71)) 37 #[.int .i64 0,.string ⟨#[]⟩,.int .i64 0,.bool false]);rw[s5] at VB6;have B46:=q_ (((Below.refl _ w4).alloc (n_) (.cells #[.pointer (some ⟨g,0,none⟩)] 71)).alloc (by omega) (.cells #[.int .i64 0,.string ⟨#[]⟩,.int .i64 0,.bool false] 37));have hs6:((w4.alloc (.cells #[.pointer (some ⟨g,0,none⟩)] 71)).alloc (.cells #[.int .i64 0,.string ⟨#[]⟩,.int .i64 0,.bool false] 37)).heap.size=w4.heap.size+2:=by simp
 clear s5;generalize (w4.alloc (.cells #[.pointer (some ⟨g,0,none⟩)] 71)).alloc (.cells #[.int .i64 0,.string ⟨#[]⟩,.int .i64 0,.bool false] 37)=w6 at*;have B6:=q_ (B4.o.trans (B46.o.mono B4.o.size));have NB6:=q_ (NB4.o.below B46.o NB4.o.lt);have OB6:=q_ (OB4.o.below B46.o OB4.o.lt);have G6:=q_ (G4.o.below B46.o G4.o.lt);have hse:∀b,S b->b<w.heap.size:=HS.o;have HS6:=q_ (show∀b,(S b\/(New w3 w4 b/\b≠g))->b<w6.heap.size/\b≠g from fun b hb=>hb.elim (fun h=>⟨by have:=hse b h;omega,by have:=hse b h;omega⟩) (fun h=>⟨by have:=h.1.2;omega,h.2⟩))
 have PI6:=q_ (show PlIn w6 g (fun b=>b=g) (fun b=>S b\/(New w3 w4 b/\b≠g)) ⟨[],⟨#[]⟩⟩ ⟨M.canon m,[],false,[]⟩ (newPV (M.canon m).d (.slice A2 (M.canon m).segs.length c2) (.slice none 0 0) ⟨#[]⟩) [] from
  newPV_in G6.o.lt HS6.o (by decide) OK4.o ((L4.o.below B46.o (fun b h=>h.1.2)).wide (fun b hb=> .inr hb)) SOk.none LAt.nil ⟨Nat.lt_of_lt_of_le HMX.o.1 B6.o.size,by have:=HMX.o.1;omega,by obtain⟨z,hz⟩:=HMX.o.2;exact⟨z,(B6.o.cell (p:=⟨2,0,none⟩) HMX.o.1).trans hz⟩⟩)
 have hisA:M.isA n 3=true:=by
  have:=HKN.o;unfold M.kindN at this;split at this
  ·assumption
  ·cases this
 have hkk:M.kindE [] [] 20 false (M.exprOf n)= .ok kd:=by
  have:=HKN.o;unfold M.kindN at this
  rwa [if_pos hisA] at this
 have hti:=M.exprOf_is hisA;obtain⟨t,ht⟩:∃t,M.exprOf n=t:=⟨_,rfl⟩
 rw[ht] at hti hkk;obtain⟨hn,hwf,hT,hlen⟩:=hti;subst hn;have HTE:=q_ ht;clear ht;have HT:=q_ (And.intro hT (And.intro hwf hkk));clear hT hwf hkk hlen hisA G4 hse;obtain⟨r,hr⟩:∃r,M.cut 2000 0 (M.evalE ⟨[],⟨#[]⟩⟩ (M.canon m) [] 20 t)=r:=⟨_,rfl⟩
 have HR:=q_ hr;clear hr;obtain⟨Q,hQ⟩:∃Q:Int->World->Prop,Q=fun k W=>(∃p',Blk W g 77 (PV.cells p' 2000 r.2))/\((∃er,r.1= .error er/\k=er)\/(∃v,r.1= .ok v/\k=0/\Blk W (w4.heap.size+1) 37 #[.int .i64 v.kind,.string v.text,.int .i64 v.num,.bool v.truth])):=⟨_,rfl⟩
 have HQ:=q_ hQ;clear hQ
 have HDO:=q_ (fun(W:World) (hW:Below w6.heap.size w6 W)=>show Calls Tryz.prog 27 #[.pointer (some ⟨w4.heap.size,0,none⟩),.pointer (some ⟨w.heap.size,0,none⟩),.pointer (some ⟨w4.heap.size+1,0,none⟩)] W fun e w'=>Turns (fun b=>b=g\/b=w4.heap.size+1) W w'/\∃k,Q k w'/\((k=0/\e= .returned (.tuple #[]))\/(k≠0/\e=panE k)) from by
  refine(expr1_any (N:=S) (c:=⟨[],⟨#[]⟩⟩) (PB6.o.below hW PB6.o.lt) (NB6.o.below hW NB6.o.lt) (VB6.o.below hW VB6.o.lt) HT.o.1 HT.o.2.1 HT.o.2.2 (PI6.o.below hW) (G6.o.below hW G6.o.lt) (by omega) (by omega) (fun b hb=>⟨by have:=HS.o b hb;have:=B6.o.size;have:=hW.size;omega,by have:=HS.o b hb;omega⟩) OKN.o (HLN.o.below (B6.o.trans (hW.mono B6.o.size)) HS.o)).mono ?_
  rintro e w' ⟨h1,h2,h3⟩;rw[HR.o] at h2 h3;rw[HQ.o];obtain⟨r1,u⟩:=r;cases r1 with
  |error er=>
   obtain rfl:=h3;exact⟨h1,er,⟨⟨_,h2⟩,.inl ⟨er,rfl,rfl⟩⟩,.inr ⟨M.cut_errs2 HR.o,rfl⟩⟩
  |ok v=>
   obtain⟨rfl,h3⟩:=h3;exact⟨h1,0,⟨⟨_,h2⟩,.inr ⟨v,rfl,rfl,h3⟩⟩,.inl ⟨rfl,rfl⟩⟩)
 go_wp2_with fail;refine(eplayedE_any ⟨w4.heap.size,0,none⟩ ⟨w.heap.size,0,none⟩ ⟨w4.heap.size+1,0,none⟩ w6 (fun b=>b=g\/b=w4.heap.size+1) Q (by rintro q (rfl|rfl);exact G6.o.lt;omega) HDO.o).mono ?_
 rintro e w9 ⟨k,w8,rfl,hq,hT8,hT9,hB9⟩;rw[HQ.o] at hq;obtain⟨⟨p',hk9⟩,hq⟩:=hq;have PB9:=q_ (hT9.blk (hT8.blk PB6.o (by rintro(h|h)<;>omega)) (by omega));have OB9:=q_ (hT9.blk (hT8.blk OB6.o (by rintro(h|h)<;>omega)) (by omega));have B9:=q_ (show Below w.heap.size w w9 from(B6.o.trans (hT8.below B6.o.size (fun b hb e=>by rcases e with e|e<;>omega))).trans (hT9.below (Nat.le_trans B6.o.size hT8.size) (fun b hb e=>by omega)));have G9:=q_ (hT9.blk hk9 (by omega));obtain⟨r1,u⟩:=r;simp only at hk9 hq G9;have zp:=PB9.o.cell;have zu:w9.cell? ⟨g,9,none⟩=some (.int .i64 (u:Nat)):=G9.o.cell 9;rcases hq with⟨er,rfl,rfl⟩|⟨v,rfl,rfl,hv8⟩
 ·have hne:k≠0:=M.cut_errs2 HR.o
  have q1:(k !=0)=true:=by rw[bne_iff_ne];exact hne
  clear hT8 hT9 hB9 hk9 hne HDO HQ PI6 PB6 OB6 NB6 VB6 G6 HT HS6 hmf;go_wp2_with (refine wpList_store_blk (cs':=#[.int .u8 0,.int .u8 0,.int .u8 0,.int .u8 0,.int .u8 0,.slice none 0 0,.slice none 0 0,.bool false,.int .i64 0,.string ⟨#[]⟩,.int .i64 0,.bool false,.int .i64 (u:Nat)]) rfl 39 (.tmp 10) (.tmp 46) rfl (w.heap.size+1+1) (by rfl) (by rfl) OB9.o rfl (by kernel_rfl) (by simp[Value.oneCell']) ?_;intro wA kA gA;have KA:=q_ kA;have GA:=q_ (below_gr B9.o gA (by omega));clear kA gA)
  (try simp only[Exit.inBlock,Exit.then]);exact bodyPost_ret (out_res rfl KA.o rfl rfl rfl) rfl (by unfold OutP;rw[HTE.o,HR.o];exact⟨GA.o,rfl⟩)
 ·have hb9:=hB9 rfl
  have V9:=q_ (hv8.below hb9 hv8.lt);clear hT8 hT9 hB9 hk9 HDO HQ PI6 PB6 OB6 NB6 VB6 G6 HT HS6 hmf hb9 hv8 zu zp;go_wp2_with fail;refine wp_region_genP (KP:=fun _ _=>False) 6 [] (fun _ _ W=>Below w9.heap.size w9 W) (by kernel_rfl) (by kernel_rfl) ⟨rfl,rfl,rfl,n_,fun _ _=>rfl⟩ (fun ch a2 w5 hd hk=>hk.elim) ?_
  iterate 6
   apply wpGenP_pure rfl
   ·intro L vs wx hI hR hL K hK
    first
    |have c0:=fun i=>(V9.o.below hI V9.o.lt).cell i
     go_simp;exact hK _ hI
    |have c0:=fun i=>(PB9.o.below hI PB9.o.lt).cell i
     go_simp;exact hK _ hI
    |have c0:wx.cell? ⟨g,9,none⟩=some (.int .i64 (u:Nat)):=(G9.o.below hI G9.o.lt).cell 9
     go_simp;exact hK _ hI
   intro KK hKK;go_simp;refine hKK _ ?_;clear hKK KK
  refine wpGenP_nil ?_;intro vs wA hI;have BA:=q_ hI;intro KK2 hKK;have hKN:=fun a w h=>hKK .normal a w h;simp only[List.drop_succ_cons,List.drop_zero];clear hI;have OBA:=q_ (OB9.o.below BA.o OB9.o.lt);have B1A:=q_ (B9.o.trans (BA.o.mono B9.o.size));go_wp2_with (refine wpList_store_blk (cs':=outCells M.zeroD (.slice none 0 0) (.slice none 0 0) false v (u:Nat)) rfl 39 (.tmp 10) (.tmp 53) rfl (w.heap.size+1+1) (by rfl) (by rfl) OBA.o rfl (by kernel_rfl) (by simp[outCells,Value.oneCell']) ?_;intro wB kB gB;have KB:=q_ kB;have BB:=q_ (below_gr B1A.o gB (by omega));clear kB gB)
  (try refine hKN _ _ ?_)
  (try simp only[Exit.inBlock,Exit.then]);exact bodyPost_ret (out_res rfl KB.o rfl rfl rfl) rfl (by unfold OutP;rw[HTE.o,HR.o];exact⟨BB.o,rfl⟩)
end Go.Proofs.YtnocnbklhikmnaaGreatDoor
