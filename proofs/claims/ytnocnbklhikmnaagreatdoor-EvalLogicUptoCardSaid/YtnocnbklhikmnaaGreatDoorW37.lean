/- Part 37 of the proof. -/
import Derived.Test.YtnocnbklhikmnaaGreatDoorW36
import Derived.Defers
import Derived.Recover
set_option linter.unusedVariables false
set_option maxRecDepth 1000000
set_option maxHeartbeats 16000000
namespace Go.Proofs.YtnocnbklhikmnaaGreatDoor
open Go Go.RowKit Go.BigFrame
structure PutN(W0:World)(tab:Nat->Option (Nat×TypeId×Value×Value))(L:Nat->Bool)(vs:Nat->Value)(w:World):Prop where
 turns:Turns (fun q=>∃k z,tab k=some z/\q=z.1) W0 w
 at_:∀k z,tab k=some z->Blk w z.1 z.2.1 #[if L k=true then z.2.2.2 else z.2.2.1]
section
variable {W0 w:World} {tab:Nat->Option (Nat×TypeId×Value×Value)} {L:Nat->Bool} {vs:Nat->Value}
theorem PutN.start(h:∀k z,tab k=some z->Blk W0 z.1 z.2.1 #[z.2.2.1]):PutN W0 tab (fun _=>false) vs {W0 with drawn:=W0.drawn+1}:=
 ⟨⟨rfl,rfl,rfl,n_,fun _ _ _=>rfl⟩,fun k z hz=>h k z hz⟩
theorem PutN.pure(h:PutN W0 tab L vs w){k:Nat}{v:Value}(hk:tab k=none):PutN W0 tab (upd L k) (updv vs k v) w:=
 ⟨h.turns,fun j z hz=>by
  have e:upd L k j=L j:=by
   have:j≠k:=fun e=>by rw[e,hk] at hz;cases hz
   simp[upd,this]
  rw[e];exact h.at_ j z hz⟩
theorem PutN.put(h:PutN W0 tab L vs w){k:Nat}{z:Nat×TypeId×Value×Value}{v:Value}(hk:tab k=some z)(hd:∀j y,tab j=some y->j≠k->y.1≠z.1):PutN W0 tab (upd L k) (updv vs k v) (w.setCell ⟨z.1,0,none⟩ z.2.2.2):=
 ⟨h.turns.trans (Mu':=fun q=>q=z.1) ((Turns.refl _ w).grown (fun _=>rfl) (grown_set w z.1 0 z.2.2.2)) (fun b _ e=>⟨k,z,hk,e⟩),fun j y hy=>by
  by_cases hj:j=k
  ·subst hj
   rw[hk] at hy;cases hy;have:=(h.at_ j z hk).one_set z.2.2.2;simpa[upd] using this
  ·have e:upd L k j=L j:=by simp[upd,hj]
   rw[e];exact(h.at_ j y hy).far (hd j y hy hj) _⟩
end
def tab4(k:Nat)(a b c d:Nat×TypeId×Value×Value)(j:Nat):Option (Nat×TypeId×Value×Value):=if j=k then some a else if j=k+1 then some b else if j=k+2 then some c else if j=k+3 then some d else none
theorem tab4_all{k:Nat}{a b c d y:Nat×TypeId×Value×Value}{j:Nat}(h:tab4 k a b c d j=some y):(j=k/\y=a)\/(j=k+1/\y=b)\/(j=k+2/\y=c)\/(j=k+3/\y=d):=by
 unfold tab4 at h
 repeat' split at h
 all_goals first|(cases h;simp_all)|cases h
theorem tab4_apart{k:Nat}{a b c d y z:Nat×TypeId×Value×Value}{i j:Nat}(hn:a.1<b.1/\b.1<c.1/\c.1<d.1)(hz:tab4 k a b c d i=some z)(h:tab4 k a b c d j=some y)(hj:j≠i):y.1≠z.1:=by
 rcases tab4_all h with⟨e,rfl⟩|⟨e,rfl⟩|⟨e,rfl⟩|⟨e,rfl⟩<;>rcases tab4_all hz with⟨e2,rfl⟩|⟨e2,rfl⟩|⟨e2,rfl⟩|⟨e2,rfl⟩<;>omega
theorem tab4_turns{k:Nat}{a b c d:Nat×TypeId×Value×Value}{q:Nat}(h:∃j z,tab4 k a b c d j=some z/\q=z.1):q=a.1\/q=b.1\/q=c.1\/q=d.1:=by
 obtain⟨j,z,hz,rfl⟩:=h;rcases tab4_all hz with⟨-,rfl⟩|⟨-,rfl⟩|⟨-,rfl⟩|⟨-,rfl⟩<;>simp
theorem tab4_start{W:World}{k:Nat}{a b c d:Nat×TypeId×Value×Value}{vs:Nat->Value}(ha:Blk W a.1 a.2.1 #[a.2.2.1])(hb:Blk W b.1 b.2.1 #[b.2.2.1])(hc:Blk W c.1 c.2.1 #[c.2.2.1])(hd:Blk W d.1 d.2.1 #[d.2.2.1]):PutN W (tab4 k a b c d) (fun _=>false) vs {W with drawn:=W.drawn+1}:=
 PutN.start (fun j y hy=>by
  rcases tab4_all hy with⟨-,rfl⟩|⟨-,rfl⟩|⟨-,rfl⟩|⟨-,rfl⟩
  ·exact ha
  ·exact hb
  ·exact hc
  ·exact hd)
theorem frame_is'{c:Code}{Q:Exit->Act->World->Prop}{t t':Array Value}{d:List Deferred}{w:World}(h:t=t')(g:Code.wp Tryz.prog c Q {tmps:=t',defers:=d} w):Code.wp Tryz.prog c Q {tmps:=t,defers:=d} w:=h▸g
theorem rcatch_idle(a b c d:Addr)(w:World):CallsD Tryz.prog 75 #[.pointer (some a),.pointer (some b),.pointer (some c),.pointer (some d)] .returning w fun e u' w'=>e= .returned (.tuple #[])/\u'= .returning/\w'=w:=by
 refine callsD_of_wpS Tryz.func75 rfl fun c₀ cs hu=> ?_;apply wpS_seq;apply wpS_region;simp[wpOpsS,go_sem,recoverD,hu,Tryz.ntmps75,Exit.thenS];refine wpS_of_wp ?_;refine frame_is' (t':=#[.pointer (some a),.pointer (some b),.pointer (some c),.pointer (some d),.nilIface,undef,undef,.nilIface,undef,undef,undef,undef,undef,undef,undef,undef,undef,undef,undef,undef,undef,undef]) (by kernel_rfl) ?_;go_wp2;cases c₀;simp_all [bodyPostS,results,Tryz.results75]
theorem bad_is(v:Value)(W:World):(Instr.typeAssert (.iface 130 v) 20 130 true).run Tryz.prog W= .ok (.tuple #[v,.bool true]) W:=by kernel_rfl
theorem rcatch_bad(a b c d:Nat)(k z:Int)(x1 x2 x3 x4:Value)(w:World)(h1:Blk w a 29 #[x1])(h2:Blk w b 30 #[x2])(h3:Blk w c 3 #[x3])(h4:Blk w d 3 #[x4])(hn:a<b/\b<c/\c<d):
 CallsD Tryz.prog 75 #[.pointer (some ⟨a,0,none⟩),.pointer (some ⟨b,0,none⟩),.pointer (some ⟨c,0,none⟩),.pointer (some ⟨d,0,none⟩)] (.panicking [{v:= .iface 130 (.agg #[.int .i64 k,.int .i64 z]),recovered:=false}]) w fun e u' w'=>
  e= .returned (.tuple #[])/\u'= .panicking [{v:= .iface 130 (.agg #[.int .i64 k,.int .i64 z]),recovered:=true}]/\Turns (fun q=>q=a\/q=b\/q=c\/q=d) w w'/\Blk w' a 29 #[.slice none 0 0]/\Blk w' b 30 #[.int .i64 81]/\Blk w' c 3 #[.int .i64 k]/\Blk w' d 3 #[.int .i64 z]:=by
 refine callsD_of_wpS Tryz.func75 rfl fun c₀ cs hu=> ?_;have K1:=q_ (Blk.new w 130 #[.int .i64 k,.int .i64 z]);have B1:=q_ ((Below.refl _ w).alloc (n_) (.cells #[.int .i64 k,.int .i64 z] 130));have H1:=q_ (h1.alloc (.cells #[.int .i64 k,.int .i64 z] 130));have H2:=q_ (h2.alloc (.cells #[.int .i64 k,.int .i64 z] 130));have H3:=q_ (h3.alloc (.cells #[.int .i64 k,.int .i64 z] 130));have H4:=q_ (h4.alloc (.cells #[.int .i64 k,.int .i64 z] 130));have hd:=h4.lt;clear h1 h2 h3 h4;apply wpS_seq;apply wpS_region;simp[wpOpsS,go_sem,recoverD,hu,Tryz.ntmps75,Exit.thenS];refine wpS_of_wp ?_;refine frame_is' (t':=#[.pointer (some ⟨a,0,none⟩),.pointer (some ⟨b,0,none⟩),.pointer (some ⟨c,0,none⟩),.pointer (some ⟨d,0,none⟩),.iface 130 (.agg #[.int .i64 k,.int .i64 z]),undef,undef,.iface 130 (.agg #[.int .i64 k,.int .i64 z]),undef,undef,undef,undef,undef,undef,undef,undef,undef,undef,undef,undef,undef,undef]) (by kernel_rfl) ?_;have hta:=bad_is (.agg #[.int .i64 k,.int .i64 z]);go_wp2_with fail;have hs1:(w.alloc (.cells #[.int .i64 k,.int .i64 z] 130)).heap.size=w.heap.size+1:=by simp
 generalize w.alloc (.cells #[.int .i64 k,.int .i64 z] 130)=w1 at*;have hst:PutN w1 (tab4 4 (a,29,x1,.slice none 0 0) (b,30,x2,.int .i64 81) (c,3,x3,.int .i64 k) (d,3,x4,.int .i64 z)) (fun _=>false) (fun _=>undef) {w1 with drawn:=w1.drawn+1}:=tab4_start H1.o H2.o H3.o H4.o;clear H1 H2 H3 H4;refine wp_region_genP (KP:=fun _ _=>False) 8 [] (PutN w1 (tab4 4 (a,29,x1,.slice none 0 0) (b,30,x2,.int .i64 81) (c,3,x3,.int .i64 k) (d,3,x4,.int .i64 z))) (by kernel_rfl) (by kernel_rfl) hst (fun ch a2 w5 hd hk=>hk.elim) ?_
 iterate 8
  apply wpGenP_pure rfl
  ·intro L vs wx hI hR hL K hK
   first
   |have c0:=fun i=>(hI.turns.blk K1.o (fun e=>by have:=tab4_turns e;simp at this;omega)).cell i
    go_simp;exact hK _ (hI.pure rfl)
   |have c0:=fun i=>(hI.at_ 4 _ rfl).cell i
    have f0:=fun i=>(hI.at_ 4 _ rfl).frozen i;go_simp;exact hK _ (hI.put (k:=4) rfl (fun j y hy hj=>tab4_apart (i:=4) hn rfl hy hj))
   |have c0:=fun i=>(hI.at_ 5 _ rfl).cell i
    have f0:=fun i=>(hI.at_ 5 _ rfl).frozen i;go_simp;exact hK _ (hI.put (k:=5) rfl (fun j y hy hj=>tab4_apart (i:=5) hn rfl hy hj))
   |have c0:=fun i=>(hI.at_ 6 _ rfl).cell i
    have f0:=fun i=>(hI.at_ 6 _ rfl).frozen i;go_simp;exact hK _ (hI.put (k:=6) rfl (fun j y hy hj=>tab4_apart (i:=6) hn rfl hy hj))
   |have c0:=fun i=>(hI.at_ 7 _ rfl).cell i
    have f0:=fun i=>(hI.at_ 7 _ rfl).frozen i;go_simp;exact hK _ (hI.put (k:=7) rfl (fun j y hy hj=>tab4_apart (i:=7) hn rfl hy hj))
  intro KK hKK;go_simp;refine hKK _ ?_;clear hKK KK
 refine wpGenP_nil ?_;intro vs w5 hI;intro KK hKK;have hKN:=fun a w h=>hKK .normal a w h;simp only[List.drop_succ_cons,List.drop_nil];have k1:=hI.at_ 4 _ rfl;have k2:=hI.at_ 5 _ rfl;have k3:=hI.at_ 6 _ rfl;have k4:=hI.at_ 7 _ rfl;rw[if_pos (by decide)] at k1 k2 k3 k4;have T9:=q_ ((Turns.of (Mu:=fun q=>q=a\/q=b\/q=c\/q=d) B1.o).trans hI.turns (fun q _ e=>tab4_turns e));clear hu hst;go_wp2_with fail;simp[bodyPostS,results,Tryz.results75];exact⟨T9.o,k1,k2,k3,k4⟩
theorem isExpr_any(l:List M.Node)(A:Option Addr)(c:Nat)(S:Nat->Prop)(w:World)(hS:∀b,S b->b<w.heap.size)(hok:SOk A l.length c)(hl:LAt ENode w S A l.length l):
 Calls Tryz.prog 21 #[.slice A l.length c] w fun e w'=>e= .returned (.bool (M.isA l 3))/\Below w.heap.size w w':=by
 have K:=q_ (is_any l 3 A c S w hS hok hl);clear hok hl hS;go_enter Tryz.func21,Tryz.ntmps21;go_wp2_with fail;refine K.o.mono ?_;rintro e w2 ⟨rfl,hb⟩;have HB:=q_ hb;clear hb;go_wp2;go_ret;exact⟨rfl,HB.o⟩
namespace Ps
def outR:Res->Except Int Ns
 |some (n,t::_)=>if t.kind=0 then(if M.isA n 3=true then .ok n else .error 2) else .error 81
 |_=> .error 81
def Reads(L:List UInt8)(out:Except Int Ns):Prop:=∃x,Ad.ScanX L x/\match x with
 | .error er=>out= .error er
 | .ok toks=>∃res,R (.bin 0) (toks++[endT]) res/\out=outR res
end Ps
theorem Ad.wordX_ok{s:List UInt8}{t:Ps.Tk}{n:Nat}(h:Ad.wordX s= .ok (t,n))(hl:s.length<=100000):Ps.TokOk t/\t.kind≠0:=by
 have z1:(0:Int)<=0:=by decide
 have z2:(0:Int)<=2147483647:=by decide
 have hk:∀k,(s.take k).length<=100000:=fun k=>by rw[List.length_take];omega
 cases s with
 |nil=>cases h
 |cons c r=>
  unfold Ad.wordX at h;simp only at h;split at h
  ·split at h
   ·cases h
   ·cases h
    exact⟨⟨hk _,z1,z2⟩,by simp⟩
  ·split at h
   ·split at h
    ·cases h
     have:=numV_rng (l:=(c::r).take (Ad.run Ad.digit (c::r)));exact⟨⟨hk _,this.1,this.2⟩,by simp⟩
    ·cases h
   ·split at h
    ·split at h
     ·cases h
     ·split at h
      ·cases h
      ·cases h
       rename_i hle;exact⟨⟨Nat.le_trans (Nat.le_of_not_lt hle) (by omega),z1,z2⟩,by simp⟩
    ·split at h
     ·split at h
      ·cases h
       refine⟨⟨?_,z1,z2⟩,by simp⟩;show(r.take _).length<=100000
       rw[List.length_take];simp at hl;omega
      ·cases h
     ·split at h
      ·cases h
      ·cases h
       exact⟨⟨hk _,z1,z2⟩,by simp⟩
namespace Ps
theorem toks_ok{L:List UInt8}{x:Except Int (List Tk)}(h:Ad.ScanX L x)(hl:L.length<=100000):∀toks,x= .ok toks->∀t∈toks,TokOk t/\t.kind≠0:=by
 induction h with
 |nil=>intro toks h;cases h;simp
 |skip c r x hb _ ih=>exact ih (by simp at hl;omega)
 |remark c r x hb _ ih=>
  refine ih ?_;have:=(List.dropWhile_sublist Ad.inLine (l:=r)).length_le;simp at hl;omega
 |bad=>intro toks h;cases h
 |word c r t n x h1 h2 h3 _ ih=>
  intro toks h;cases x with
  |error e=>cases h
  |ok q=>
   have h:Except.ok (t::q)=Except.ok toks:=h;cases h;intro y hy;rcases List.mem_cons.1 hy with rfl|hy
   ·exact Ad.wordX_ok h3 hl
   ·exact ih (by simp at hl⊢;omega) q rfl y hy
end Ps
def PxP(w:World)(out:Except Int (List M.Node))(e:Ending)(w':World):Prop:=Below w.heap.size w w'/\match out with
 | .error er=>∃a b,e= .returned (.tuple #[.slice none 0 0,.int .i64 er,.int .i64 a,.int .i64 b])
 | .ok n=>∃ad c,e= .returned (.tuple #[.slice (some ad) n.length c,.int .i64 0,.int .i64 0,.int .i64 0])/\n.length<=c/\c<=maxLen/\LAt ENode w' (New w w') (some ad) n.length n
theorem read_any(s:ByteArray)(w:World)(hs:s.size<=65536)(out:Except Int (List M.Node))(h:Ps.Reads s.data.toList out):
 Calls Tryz.prog 19 #[.string s,.func (.func 20) #[] #[],.func (.func 21) #[] #[]] w fun e w'=>PxP w out e w':=by
 have hmf:∀(fn:Fn) (first cap:Array Value) (w:World),(Instr.makeFunc fn first cap).run Tryz.prog w= .ok (.func fn first cap) w:=fun _ _ _ _=>rfl;have HR:=q_ h;have KS:=q_ (fun W=>scan_any s W (by omega));clear h;have z1:(w.alloc (.cells #[.slice none 0 0] 29)).heap.size=w.heap.size+1:=by simp
 have z2:((w.alloc (.cells #[.slice none 0 0] 29)).alloc (.cells #[.int .i64 0] 30)).heap.size=w.heap.size+2:=by simp
 have z3:(((w.alloc (.cells #[.slice none 0 0] 29)).alloc (.cells #[.int .i64 0] 30)).alloc (.cells #[.int .i64 0] 3)).heap.size=w.heap.size+3:=by simp
 have A1:=q_ ((((Blk.new w 29 #[.slice none 0 0]).alloc (.cells #[.int .i64 0] 30)).alloc (.cells #[.int .i64 0] 3)).alloc (.cells #[.int .i64 0] 3));have A2:=q_ (((Blk.new (w.alloc (.cells #[.slice none 0 0] 29)) 30 #[.int .i64 0]).alloc (.cells #[.int .i64 0] 3)).alloc (.cells #[.int .i64 0] 3));have A3:=q_ ((Blk.new ((w.alloc (.cells #[.slice none 0 0] 29)).alloc (.cells #[.int .i64 0] 30)) 3 #[.int .i64 0]).alloc (.cells #[.int .i64 0] 3));have A4:=q_ (Blk.new (((w.alloc (.cells #[.slice none 0 0] 29)).alloc (.cells #[.int .i64 0] 30)).alloc (.cells #[.int .i64 0] 3)) 3 #[.int .i64 0]);rw[z1] at A2;rw[z2] at A3;rw[z3] at A4;have B1:=q_ ((((((Below.refl _ w).alloc (n_) (.cells #[.slice none 0 0] 29))).alloc (by omega) (.cells #[.int .i64 0] 30)).alloc (by omega) (.cells #[.int .i64 0] 3)).alloc (by omega) (.cells #[.int .i64 0] 3));go_enter_defers Tryz.func19,Tryz.ntmps19;go_upto_region 1 with fail;have z4:((((w.alloc (.cells #[.slice none 0 0] 29)).alloc (.cells #[.int .i64 0] 30)).alloc (.cells #[.int .i64 0] 3)).alloc (.cells #[.int .i64 0] 3)).heap.size=w.heap.size+4:=by simp
 generalize ((((w.alloc (.cells #[.slice none 0 0] 29)).alloc (.cells #[.int .i64 0] 30)).alloc (.cells #[.int .i64 0] 3)).alloc (.cells #[.int .i64 0] 3))=w1 at A1 A2 A3 A4 B1 z4⊢;clear z1 z2 z3;go_wp2_with fail;refine(KS.o w1).mono ?_
 rintro e w2 ⟨⟨x,hsx,-,hx⟩,hb2⟩;have hsx:=hsx hs;obtain⟨x',hx',hout⟩:=HR.o;obtain rfl:=hsx.unique hx';clear hx' HR;have a1:=q_ (A1.o.below hb2 A1.o.lt);have a2:=q_ (A2.o.below hb2 A2.o.lt);have a3:=q_ (A3.o.below hb2 A3.o.lt);have a4:=q_ (A4.o.below hb2 A4.o.lt);have B2:=q_ (B1.o.trans (hb2.mono B1.o.size));have hz2:w.heap.size+4<=w2.heap.size:=by have:=hb2.size;omega
 cases x with
 |error er=>
  obtain⟨p,q,rfl⟩:=hx;obtain rfl:out= .error er:=hout;have her:er≠0:=by rcases Ad.scanX_err hsx er rfl with h|h<;>omega
  have q1:(er !=0)=true:=by rw[bne_iff_ne];exact her
  have c2:=a2.o.cell;have c3:=a3.o.cell;have c4:=a4.o.cell;have f2:=a2.o.frozen;have f3:=a3.o.frozen;have f4:=a4.o.frozen;clear hb2 hsx KS her;go_upto_region 3 with fail;have h1:=((a1.o.far (p:=⟨w.heap.size+1,0,none⟩) (by simp) (.int .i64 er)).far (p:=⟨w.heap.size+2,0,none⟩) (by simp) (.int .i64 p)).far (p:=⟨w.heap.size+3,0,none⟩) (by simp) (.int .i64 q);have h2:=((a2.o.one_set (.int .i64 er)).far (p:=⟨w.heap.size+2,0,none⟩) (by simp) (.int .i64 p)).far (p:=⟨w.heap.size+3,0,none⟩) (by simp) (.int .i64 q);have h3:=((a3.o.far (p:=⟨w.heap.size+1,0,none⟩) (by simp) (.int .i64 er)).one_set (.int .i64 p)).far (p:=⟨w.heap.size+3,0,none⟩) (by simp) (.int .i64 q);have h4:=((a4.o.far (p:=⟨w.heap.size+1,0,none⟩) (by simp) (.int .i64 er)).far (p:=⟨w.heap.size+2,0,none⟩) (by simp) (.int .i64 p)).one_set (.int .i64 q)
  have hb3:Below w.heap.size w (((w2.setCell ⟨w.heap.size+1,0,none⟩ (.int .i64 er)).setCell ⟨w.heap.size+2,0,none⟩ (.int .i64 p)).setCell ⟨w.heap.size+3,0,none⟩ (.int .i64 q)):=((B2.o.setCell (p:=⟨w.heap.size+1,0,none⟩) (by simp) (.int .i64 er)).setCell (p:=⟨w.heap.size+2,0,none⟩) (by simp) (.int .i64 p)).setCell (p:=⟨w.heap.size+3,0,none⟩) (by simp) (.int .i64 q);have B3:=q_ hb3;have hst:PutN (((w2.setCell ⟨w.heap.size+1,0,none⟩ (.int .i64 er)).setCell ⟨w.heap.size+2,0,none⟩ (.int .i64 p)).setCell ⟨w.heap.size+3,0,none⟩ (.int .i64 q)) (tab4 3 (w.heap.size,29,.slice none 0 0,.slice none 0 0) (w.heap.size+1,30,.int .i64 er,.int .i64 er) (w.heap.size+2,3,.int .i64 p,.int .i64 p) (w.heap.size+3,3,.int .i64 q,.int .i64 q)) (fun _=>false) (fun _=>undef) {(((w2.setCell ⟨w.heap.size+1,0,none⟩ (.int .i64 er)).setCell ⟨w.heap.size+2,0,none⟩ (.int .i64 p)).setCell ⟨w.heap.size+3,0,none⟩ (.int .i64 q)) with drawn:=(((w2.setCell ⟨w.heap.size+1,0,none⟩ (.int .i64 er)).setCell ⟨w.heap.size+2,0,none⟩ (.int .i64 p)).setCell ⟨w.heap.size+3,0,none⟩ (.int .i64 q)).drawn+1}:=tab4_start h1 h2 h3 h4;clear h1 h2 h3 h4 hb3 c2 c3 c4 f2 f3 f4 a1 a2 a3 a4
  generalize (((w2.setCell ⟨w.heap.size+1,0,none⟩ (.int .i64 er)).setCell ⟨w.heap.size+2,0,none⟩ (.int .i64 p)).setCell ⟨w.heap.size+3,0,none⟩ (.int .i64 q))=w3 at*;have hn:w.heap.size<w.heap.size+1/\w.heap.size+1<w.heap.size+2/\w.heap.size+2<w.heap.size+3:=by omega
  have HN:=q_ hn;clear hn;refine wp_region_genP (KP:=fun _ _=>False) 7 [] (PutN w3 (tab4 3 (w.heap.size,29,.slice none 0 0,.slice none 0 0) (w.heap.size+1,30,.int .i64 er,.int .i64 er) (w.heap.size+2,3,.int .i64 p,.int .i64 p) (w.heap.size+3,3,.int .i64 q,.int .i64 q))) (by kernel_rfl) (by kernel_rfl) hst (fun ch a2 w5 hd hk=>hk.elim) ?_
  iterate 7
   apply wpGenP_pure rfl
   ·intro L vs wx hI hR hL K hK
    first
    |have k0:=hI.at_ 4 _ rfl
     rw[ite_self] at k0;have c0:=fun i=>k0.cell i;go_simp;exact hK _ (hI.pure rfl)
    |have k0:=hI.at_ 5 _ rfl
     rw[ite_self] at k0;have c0:=fun i=>k0.cell i;go_simp;exact hK _ (hI.pure rfl)
    |have k0:=hI.at_ 6 _ rfl
     rw[ite_self] at k0;have c0:=fun i=>k0.cell i;go_simp;exact hK _ (hI.pure rfl)
    |have k0:=hI.at_ 3 _ rfl
     rw[ite_self] at k0;have c0:=fun i=>k0.cell i;have f0:=fun i=>k0.frozen i;go_simp;exact hK _ (hI.put (k:=3) rfl (fun j y hy hj=>tab4_apart (i:=3) HN.o rfl hy hj))
    |have k0:=hI.at_ 4 _ rfl
     rw[ite_self] at k0;have c0:=fun i=>k0.cell i;have f0:=fun i=>k0.frozen i;go_simp;exact hK _ (hI.put (k:=4) rfl (fun j y hy hj=>tab4_apart (i:=4) HN.o rfl hy hj))
    |have k0:=hI.at_ 5 _ rfl
     rw[ite_self] at k0;have c0:=fun i=>k0.cell i;have f0:=fun i=>k0.frozen i;go_simp;exact hK _ (hI.put (k:=5) rfl (fun j y hy hj=>tab4_apart (i:=5) HN.o rfl hy hj))
    |have k0:=hI.at_ 6 _ rfl
     rw[ite_self] at k0;have c0:=fun i=>k0.cell i;have f0:=fun i=>k0.frozen i;go_simp;exact hK _ (hI.put (k:=6) rfl (fun j y hy hj=>tab4_apart (i:=6) HN.o rfl hy hj))
   intro KK hKK;go_simp;refine hKK _ ?_;clear hKK KK
  refine wpGenP_nil ?_;intro vs w5 hI;intro KK hKK;have hKN:=fun a w h=>hKK .normal a w h;simp only[List.drop_succ_cons,List.drop_nil];have k1:=hI.at_ 3 _ rfl;have k2:=hI.at_ 4 _ rfl;have k3:=hI.at_ 5 _ rfl;have k4:=hI.at_ 6 _ rfl;rw[ite_self] at k1 k2 k3 k4;have T9:=q_ (B3.o.trans (hI.turns.below B3.o.size (fun b hb e=>by have:=tab4_turns e;simp at this;omega)));have r1:w5.cell? ⟨w.heap.size,0,none⟩=some (.slice none 0 0):=k1.cell 0;have r2:w5.cell? ⟨w.heap.size+1,0,none⟩=some (.int .i64 er):=k2.cell 0;have r3:w5.cell? ⟨w.heap.size+2,0,none⟩=some (.int .i64 p):=k3.cell 0;have r4:w5.cell? ⟨w.heap.size+3,0,none⟩=some (.int .i64 q):=k4.cell 0;clear hst k1 k2 k3 k4 hI;go_wp2_with fail;simp[bodyPostD,Leaves,results,Tryz.results19,go_sem,r1,r2,r3,r4];exact⟨T9.o,_,_,rfl⟩
 |ok toks=>
  obtain⟨gb,c,htl,rfl,hl,hc1,hc2⟩:=hx;obtain⟨res,hR,rfl⟩:=hout;have c2:=a2.o.cell;have c3:=a3.o.cell;have c4:=a4.o.cell;have f2:=a2.o.frozen;have f3:=a3.o.frozen;have f4:=a4.o.frozen
  have hgbn:w1.heap.size<=gb/\gb<w2.heap.size:=by
   obtain⟨ad,e,hs,-⟩:=hl.2 (by omega);cases e;exact hs
  have hrd:∀W g,g≠gb->Blk W g 133 #[.slice (some ⟨gb,0,none⟩) (toks.length+1) c]->(∀p:Addr,p.block=gb->W.cell? p=w2.cell? p)->gb<W.heap.size->Rd W g gb (toks++[Ps.endT]):=by
   intro W g hne hg hcell hlt;refine⟨⟨0,toks.length+1,c,hg,?_,hc1,hc2,by omega⟩,fun e=>hne e.symm,hlt,⟨toks,rfl,fun t ht=>(Ps.toks_ok hsx (by simp;omega) toks rfl t ht).2⟩,fun t ht=> ?_⟩
   ·obtain⟨k1,k2⟩:=hl
    refine⟨k1,fun hm=> ?_⟩;obtain⟨ad,e,-,hx⟩:=k2 hm;cases e;refine⟨_,rfl,rfl,fun j x hj=> ?_⟩;obtain⟨cs,hr,hc⟩:=hx j x hj;exact⟨cs,hr,fun i u hu=>(hcell _ (by rw[block_of_add])).trans (hc i u hu)⟩
   ·rcases List.mem_append.1 ht with ht|ht
    ·exact(Ps.toks_ok hsx (by simp;omega) toks rfl t ht).1
    ·simp at ht
     rw[ht];exact⟨by simp[Ps.endT],by simp[Ps.endT],by simp[Ps.endT]⟩
  have HRD:=q_ hrd;have HRR:=q_ hR;clear hb2 hsx KS hl hrd hR;go_upto_region 6 with fail;have h1:=((a1.o.far (p:=⟨w.heap.size+1,0,none⟩) (by simp) (.int .i64 0)).far (p:=⟨w.heap.size+2,0,none⟩) (by simp) (.int .i64 0)).far (p:=⟨w.heap.size+3,0,none⟩) (by simp) (.int .i64 0);have h2:=((a2.o.one_set (.int .i64 0)).far (p:=⟨w.heap.size+2,0,none⟩) (by simp) (.int .i64 0)).far (p:=⟨w.heap.size+3,0,none⟩) (by simp) (.int .i64 0);have h3:=((a3.o.far (p:=⟨w.heap.size+1,0,none⟩) (by simp) (.int .i64 0)).one_set (.int .i64 0)).far (p:=⟨w.heap.size+3,0,none⟩) (by simp) (.int .i64 0);have h4:=((a4.o.far (p:=⟨w.heap.size+1,0,none⟩) (by simp) (.int .i64 0)).far (p:=⟨w.heap.size+2,0,none⟩) (by simp) (.int .i64 0)).one_set (.int .i64 0);have hb3:Below w.heap.size w (((w2.setCell ⟨w.heap.size+1,0,none⟩ (.int .i64 0)).setCell ⟨w.heap.size+2,0,none⟩ (.int .i64 0)).setCell ⟨w.heap.size+3,0,none⟩ (.int .i64 0)):=((B2.o.setCell (p:=⟨w.heap.size+1,0,none⟩) (by simp) (.int .i64 0)).setCell (p:=⟨w.heap.size+2,0,none⟩) (by simp) (.int .i64 0)).setCell (p:=⟨w.heap.size+3,0,none⟩) (by simp) (.int .i64 0)
  have hz3:(((w2.setCell ⟨w.heap.size+1,0,none⟩ (.int .i64 0)).setCell ⟨w.heap.size+2,0,none⟩ (.int .i64 0)).setCell ⟨w.heap.size+3,0,none⟩ (.int .i64 0)).heap.size=w2.heap.size:=by simp
  have hcell:∀p:Addr,p.block=gb->(((w2.setCell ⟨w.heap.size+1,0,none⟩ (.int .i64 0)).setCell ⟨w.heap.size+2,0,none⟩ (.int .i64 0)).setCell ⟨w.heap.size+3,0,none⟩ (.int .i64 0)).cell? p=w2.cell? p:=fun p hp=>World.cell?_of_block (by
   rw[Below.heap_setCell _ _ _ _ (by rw[hp];show gb≠w.heap.size+3;omega),Below.heap_setCell _ _ _ _ (by rw[hp];show gb≠w.heap.size+2;omega),Below.heap_setCell _ _ _ _ (by rw[hp];show gb≠w.heap.size+1;omega)])
  generalize (((w2.setCell ⟨w.heap.size+1,0,none⟩ (.int .i64 0)).setCell ⟨w.heap.size+2,0,none⟩ (.int .i64 0)).setCell ⟨w.heap.size+3,0,none⟩ (.int .i64 0))=w3 at*;have hgn:=Blk.new w3 133 #[.slice (some ⟨gb,0,none⟩) (toks.length+1) c];rw[hz3] at hgn;have B4:=q_ (hb3.alloc (by have:=hb3.size;omega) (.cells #[.slice (some ⟨gb,0,none⟩) (toks.length+1) c] 133));have a1:=q_ (h1.alloc (.cells #[.slice (some ⟨gb,0,none⟩) (toks.length+1) c] 133));have a2:=q_ (h2.alloc (.cells #[.slice (some ⟨gb,0,none⟩) (toks.length+1) c] 133));have a3:=q_ (h3.alloc (.cells #[.slice (some ⟨gb,0,none⟩) (toks.length+1) c] 133));have a4:=q_ (h4.alloc (.cells #[.slice (some ⟨gb,0,none⟩) (toks.length+1) c] 133))
  have R4:=q_ (HRD.o (w3.alloc (.cells #[.slice (some ⟨gb,0,none⟩) (toks.length+1) c] 133)) w2.heap.size (by omega) hgn (fun p hp=>by
   have:(w3.alloc (.cells #[.slice (some ⟨gb,0,none⟩) (toks.length+1) c] 133)).cell? p=w3.cell? p:=((Below.refl _ w3).alloc (n_) _).cell (by rw[hp];omega);exact this.trans (hcell p hp)) (by simp;omega))
  have hz4':(w3.alloc (.cells #[.slice (some ⟨gb,0,none⟩) (toks.length+1) c] 133)).heap.size=w2.heap.size+1:=by simp;omega
  clear h1 h2 h3 h4 hb3 hcell hgn c2 c3 c4 f2 f3 f4 HRD hz3;generalize w3.alloc (.cells #[.slice (some ⟨gb,0,none⟩) (toks.length+1) c] 133)=w4 at*;go_wp2_with fail;refine(or_all (toks++[Ps.endT]).length w4 w2.heap.size gb (toks++[Ps.endT]) res (n_) R4.o HRR.o).mono ?_
  rintro e w5 hp;cases res with
  |none=>
   obtain⟨ho,l,cc,rfl⟩:=hp.bad;have b1:=q_ (ho.blk a1.o (show¬w.heap.size=w2.heap.size by omega));have b2:=q_ (ho.blk a2.o (show¬w.heap.size+1=w2.heap.size by omega));have b3:=q_ (ho.blk a3.o (show¬w.heap.size+2=w2.heap.size by omega));have b4:=q_ (ho.blk a4.o (show¬w.heap.size+3=w2.heap.size by omega));have B5:=q_ (B4.o.trans (ho.below (B:=w.heap.size) (by omega) (fun b hb e=>by omega)));clear hp ho a1 a2 a3 a4 hmf;unfold panB;go_wp2;refine leaves_cons (f:=75) (args:=#[.pointer (some ⟨w.heap.size,0,none⟩),.pointer (some ⟨w.heap.size+1,0,none⟩),.pointer (some ⟨w.heap.size+2,0,none⟩),.pointer (some ⟨w.heap.size+3,0,none⟩)]) (by simp) (by simp[go_sem]) ?_;refine(rcatch_bad _ _ _ _ l cc _ _ _ _ _ b1.o b2.o b3.o b4.o (by omega)).mono ?_
   rintro e u' w6 ⟨rfl,rfl,ht,k1,k2,k3,k4⟩;have T6:=q_ (B5.o.trans (ht.below (B:=w.heap.size) (B5.o.size) (fun b hb e=>by omega)));have r1:w6.cell? ⟨w.heap.size,0,none⟩=some (.slice none 0 0):=k1.cell 0;have r2:w6.cell? ⟨w.heap.size+1,0,none⟩=some (.int .i64 81):=k2.cell 0;have r3:w6.cell? ⟨w.heap.size+2,0,none⟩=some (.int .i64 l):=k3.cell 0;have r4:w6.cell? ⟨w.heap.size+3,0,none⟩=some (.int .i64 cc):=k4.cell 0;clear ht k1 k2 k3 k4;simp[Leaves,settle,results,Tryz.results19,go_sem,r1,r2,r3,r4];exact⟨T6.o,_,_,rfl⟩
  |some x=>
   obtain⟨n,r⟩:=x;obtain⟨ho,⟨ad,c5,rfl,hnc,hcm5,hl5⟩,hr5⟩:=hp.okd;simp only at hnc hl5 hr5;obtain⟨t,q,rfl⟩:=hr5.ends.split;have b1:=q_ (ho.blk a1.o (show¬w.heap.size=w2.heap.size by omega));have b2:=q_ (ho.blk a2.o (show¬w.heap.size+1=w2.heap.size by omega));have b3:=q_ (ho.blk a3.o (show¬w.heap.size+2=w2.heap.size by omega));have b4:=q_ (ho.blk a4.o (show¬w.heap.size+3=w2.heap.size by omega));have B5:=q_ (B4.o.trans (ho.below (B:=w.heap.size) (by omega) (fun b hb e=>by omega)));have L5:=q_ hl5;have R5:=q_ hr5;obtain⟨o,m,cx,hg5,hlt5,hmc,hcm,hm⟩:=hr5.at_;obtain⟨pt,pa,pb,pc,pd,pe,l,co,hpx,e0,-⟩:=hlt5.head_;have c0:w5.cell? ⟨w2.heap.size,0,none⟩=some (.slice (some ⟨gb,o,none⟩) m cx):=hg5.cell 0;have hm1:0<m:=by have:=hlt5.1;simp at this;omega
   have hn1:=(HRR.o.size trivial _ _ rfl).1;have hs5:=ho.size;simp[Ps.made] at hn1;clear hp ho hr5 hl5 hg5 hlt5 hpx a1 a2 a3 a4 hmf;by_cases hk:t.kind=0
   ·have q1:(t.kind !=0)=false:=by rw[hk];rfl
    have KV:=q_ (isExpr_any n (some ad) c5 (fun b=>w4.heap.size<=b/\b<w5.heap.size) w5 (fun b hb=>hb.2) ⟨(fun h=>by cases h),hnc,by omega,hcm5⟩ L5.o);cases hv:M.isA n 3 with
    |true=>
     rw[hv] at KV;have HO:=q_ (show Ps.outR (some (n,t::q))= .ok n by unfold Ps.outR;simp only;rw[if_pos hk,if_pos hv]);go_wp2_with fail;refine KV.o.mono ?_;rintro e w6 ⟨rfl,hb6⟩;have g1:=q_ (b1.o.below hb6 b1.o.lt);have g2:=q_ (b2.o.below hb6 b2.o.lt);have g3:=q_ (b3.o.below hb6 b3.o.lt);have g4:=q_ (b4.o.below hb6 b4.o.lt);have B6:=q_ (B5.o.trans (hb6.mono B5.o.size));have L6:=q_ (L5.o.below hb6 (fun b hb=>hb.2));have hs6:=hb6.size;have c1:=g1.o.cell;have c2:=g2.o.cell;have c3:=g3.o.cell;have c4:=g4.o.cell;have f1:=g1.o.frozen;have f2:=g2.o.frozen;have f3:=g3.o.frozen;have f4:=g4.o.frozen;clear hb6 c0 KV b1 b2 b3 b4 e0;go_wp2_with fail;refine leaves_cons (f:=75) (args:=#[.pointer (some ⟨w.heap.size,0,none⟩),.pointer (some ⟨w.heap.size+1,0,none⟩),.pointer (some ⟨w.heap.size+2,0,none⟩),.pointer (some ⟨w.heap.size+3,0,none⟩)]) (by simp) (by simp[go_sem]) ?_;refine(rcatch_idle _ _ _ _ _).mono ?_
     rintro e u' w7 ⟨rfl,rfl,h7⟩;have h1:=(((g1.o.one_set (.slice (some ad) n.length c5)).far (p:=⟨w.heap.size+1,0,none⟩) (by simp) (.int .i64 0)).far (p:=⟨w.heap.size+2,0,none⟩) (by simp) (.int .i64 0)).far (p:=⟨w.heap.size+3,0,none⟩) (by simp) (.int .i64 0);have h2:=(((g2.o.far (p:=⟨w.heap.size,0,none⟩) (by simp) (.slice (some ad) n.length c5)).one_set (.int .i64 0)).far (p:=⟨w.heap.size+2,0,none⟩) (by simp) (.int .i64 0)).far (p:=⟨w.heap.size+3,0,none⟩) (by simp) (.int .i64 0);have h3:=(((g3.o.far (p:=⟨w.heap.size,0,none⟩) (by simp) (.slice (some ad) n.length c5)).far (p:=⟨w.heap.size+1,0,none⟩) (by simp) (.int .i64 0)).one_set (.int .i64 0)).far (p:=⟨w.heap.size+3,0,none⟩) (by simp) (.int .i64 0);have h4:=(((g4.o.far (p:=⟨w.heap.size,0,none⟩) (by simp) (.slice (some ad) n.length c5)).far (p:=⟨w.heap.size+1,0,none⟩) (by simp) (.int .i64 0)).far (p:=⟨w.heap.size+2,0,none⟩) (by simp) (.int .i64 0)).one_set (.int .i64 0)
     have B7:Below w.heap.size w ((((w6.setCell ⟨w.heap.size,0,none⟩ (.slice (some ad) n.length c5)).setCell ⟨w.heap.size+1,0,none⟩ (.int .i64 0)).setCell ⟨w.heap.size+2,0,none⟩ (.int .i64 0)).setCell ⟨w.heap.size+3,0,none⟩ (.int .i64 0)):=(((B6.o.setCell (p:=⟨w.heap.size,0,none⟩) (by simp) (.slice (some ad) n.length c5)).setCell (p:=⟨w.heap.size+1,0,none⟩) (by simp) (.int .i64 0)).setCell (p:=⟨w.heap.size+2,0,none⟩) (by simp) (.int .i64 0)).setCell (p:=⟨w.heap.size+3,0,none⟩) (by simp) (.int .i64 0);have hz7:((((w6.setCell ⟨w.heap.size,0,none⟩ (.slice (some ad) n.length c5)).setCell ⟨w.heap.size+1,0,none⟩ (.int .i64 0)).setCell ⟨w.heap.size+2,0,none⟩ (.int .i64 0)).setCell ⟨w.heap.size+3,0,none⟩ (.int .i64 0)).heap.size=w6.heap.size:=by simp
     have hcell:∀p:Addr,w4.heap.size<=p.block->((((w6.setCell ⟨w.heap.size,0,none⟩ (.slice (some ad) n.length c5)).setCell ⟨w.heap.size+1,0,none⟩ (.int .i64 0)).setCell ⟨w.heap.size+2,0,none⟩ (.int .i64 0)).setCell ⟨w.heap.size+3,0,none⟩ (.int .i64 0)).cell? p=w6.cell? p:=fun p hp=>World.cell?_of_block (by
      rw[Below.heap_setCell _ _ _ _ (by show p.block≠w.heap.size+3;omega),Below.heap_setCell _ _ _ _ (by show p.block≠w.heap.size+2;omega),Below.heap_setCell _ _ _ _ (by show p.block≠w.heap.size+1;omega),Below.heap_setCell _ _ _ _ (by show p.block≠w.heap.size;omega)])
     rw[<-h7] at h1 h2 h3 h4 B7 hz7 hcell;have r1:w7.cell? ⟨w.heap.size,0,none⟩=some (.slice (some ad) n.length c5):=h1.cell 0;have r2:w7.cell? ⟨w.heap.size+1,0,none⟩=some (.int .i64 0):=h2.cell 0;have r3:w7.cell? ⟨w.heap.size+2,0,none⟩=some (.int .i64 0):=h3.cell 0;have r4:w7.cell? ⟨w.heap.size+3,0,none⟩=some (.int .i64 0):=h4.cell 0;have HB7:=q_ B7;have HC7:=q_ hcell;clear h1 h2 h3 h4 h7 c1 c2 c3 c4 f1 f2 f3 f4 B7 hcell;simp[Leaves,settle,results,Tryz.results19,go_sem,r1,r2,r3,r4];rw[HO.o];exact⟨HB7.o,ad,c5,rfl,hnc,hcm5,(L6.o.keep (S':=fun b=>w4.heap.size<=b/\b<w5.heap.size) (fun b hb=>hb) (fun p hp=>HC7.o p hp.1)).wide (fun b hb=>⟨by have:=B4.o.size;omega,by omega⟩)⟩
    |false=>
     rw[hv] at KV;have HO:=q_ (show Ps.outR (some (n,t::q))= .error 2 by unfold Ps.outR;simp only;rw[if_pos hk,if_neg (by rw[hv];simp)]);go_wp2_with fail;refine KV.o.mono ?_;rintro e w6 ⟨rfl,hb6⟩;have g1:=q_ (b1.o.below hb6 b1.o.lt);have g2:=q_ (b2.o.below hb6 b2.o.lt);have g3:=q_ (b3.o.below hb6 b3.o.lt);have g4:=q_ (b4.o.below hb6 b4.o.lt);have B6:=q_ (B5.o.trans (hb6.mono B5.o.size));have L6:=q_ (L5.o.below hb6 (fun b hb=>hb.2));have hs6:=hb6.size;have c1:=g1.o.cell;have c2:=g2.o.cell;have c3:=g3.o.cell;have c4:=g4.o.cell;have f1:=g1.o.frozen;have f2:=g2.o.frozen;have f3:=g3.o.frozen;have f4:=g4.o.frozen;clear hb6 c0 KV b1 b2 b3 b4 e0;go_wp2_with fail;refine leaves_cons (f:=75) (args:=#[.pointer (some ⟨w.heap.size,0,none⟩),.pointer (some ⟨w.heap.size+1,0,none⟩),.pointer (some ⟨w.heap.size+2,0,none⟩),.pointer (some ⟨w.heap.size+3,0,none⟩)]) (by simp) (by simp[go_sem]) ?_;refine(rcatch_idle _ _ _ _ _).mono ?_
     rintro e u' w7 ⟨rfl,rfl,h7⟩;have h1:=(((g1.o.one_set (.slice none 0 0)).far (p:=⟨w.heap.size+1,0,none⟩) (by simp) (.int .i64 2)).far (p:=⟨w.heap.size+2,0,none⟩) (by simp) (.int .i64 0)).far (p:=⟨w.heap.size+3,0,none⟩) (by simp) (.int .i64 0);have h2:=(((g2.o.far (p:=⟨w.heap.size,0,none⟩) (by simp) (.slice none 0 0)).one_set (.int .i64 2)).far (p:=⟨w.heap.size+2,0,none⟩) (by simp) (.int .i64 0)).far (p:=⟨w.heap.size+3,0,none⟩) (by simp) (.int .i64 0);have h3:=(((g3.o.far (p:=⟨w.heap.size,0,none⟩) (by simp) (.slice none 0 0)).far (p:=⟨w.heap.size+1,0,none⟩) (by simp) (.int .i64 2)).one_set (.int .i64 0)).far (p:=⟨w.heap.size+3,0,none⟩) (by simp) (.int .i64 0);have h4:=(((g4.o.far (p:=⟨w.heap.size,0,none⟩) (by simp) (.slice none 0 0)).far (p:=⟨w.heap.size+1,0,none⟩) (by simp) (.int .i64 2)).far (p:=⟨w.heap.size+2,0,none⟩) (by simp) (.int .i64 0)).one_set (.int .i64 0)
     have B7:Below w.heap.size w ((((w6.setCell ⟨w.heap.size,0,none⟩ (.slice none 0 0)).setCell ⟨w.heap.size+1,0,none⟩ (.int .i64 2)).setCell ⟨w.heap.size+2,0,none⟩ (.int .i64 0)).setCell ⟨w.heap.size+3,0,none⟩ (.int .i64 0)):=(((B6.o.setCell (p:=⟨w.heap.size,0,none⟩) (by simp) (.slice none 0 0)).setCell (p:=⟨w.heap.size+1,0,none⟩) (by simp) (.int .i64 2)).setCell (p:=⟨w.heap.size+2,0,none⟩) (by simp) (.int .i64 0)).setCell (p:=⟨w.heap.size+3,0,none⟩) (by simp) (.int .i64 0);have hz7:((((w6.setCell ⟨w.heap.size,0,none⟩ (.slice none 0 0)).setCell ⟨w.heap.size+1,0,none⟩ (.int .i64 2)).setCell ⟨w.heap.size+2,0,none⟩ (.int .i64 0)).setCell ⟨w.heap.size+3,0,none⟩ (.int .i64 0)).heap.size=w6.heap.size:=by simp
     have hcell:∀p:Addr,w4.heap.size<=p.block->((((w6.setCell ⟨w.heap.size,0,none⟩ (.slice none 0 0)).setCell ⟨w.heap.size+1,0,none⟩ (.int .i64 2)).setCell ⟨w.heap.size+2,0,none⟩ (.int .i64 0)).setCell ⟨w.heap.size+3,0,none⟩ (.int .i64 0)).cell? p=w6.cell? p:=fun p hp=>World.cell?_of_block (by
      rw[Below.heap_setCell _ _ _ _ (by show p.block≠w.heap.size+3;omega),Below.heap_setCell _ _ _ _ (by show p.block≠w.heap.size+2;omega),Below.heap_setCell _ _ _ _ (by show p.block≠w.heap.size+1;omega),Below.heap_setCell _ _ _ _ (by show p.block≠w.heap.size;omega)])
     rw[<-h7] at h1 h2 h3 h4 B7 hz7 hcell;have r1:w7.cell? ⟨w.heap.size,0,none⟩=some (.slice none 0 0):=h1.cell 0;have r2:w7.cell? ⟨w.heap.size+1,0,none⟩=some (.int .i64 2):=h2.cell 0;have r3:w7.cell? ⟨w.heap.size+2,0,none⟩=some (.int .i64 0):=h3.cell 0;have r4:w7.cell? ⟨w.heap.size+3,0,none⟩=some (.int .i64 0):=h4.cell 0;have HB7:=q_ B7;have HC7:=q_ hcell;clear h1 h2 h3 h4 h7 c1 c2 c3 c4 f1 f2 f3 f4 B7 hcell;simp[Leaves,settle,results,Tryz.results19,go_sem,r1,r2,r3,r4];rw[HO.o];exact⟨HB7.o,_,_,rfl⟩
   ·have q1:(t.kind !=0)=true:=by rw[bne_iff_ne];exact hk
    have HO:=q_ (show Ps.outR (some (n,t::q))= .error 81 by unfold Ps.outR;simp only;rw[if_neg hk]);go_wp2_with fail;refine(rfail_any w5 w2.heap.size gb t q R5.o).mono ?_
    rintro e w6 ⟨⟨l,cc,rfl⟩,hb6⟩;have g1:=q_ (b1.o.below hb6 b1.o.lt);have g2:=q_ (b2.o.below hb6 b2.o.lt);have g3:=q_ (b3.o.below hb6 b3.o.lt);have g4:=q_ (b4.o.below hb6 b4.o.lt);have B6:=q_ (B5.o.trans (hb6.mono B5.o.size));clear hb6 c0 b1 b2 b3 b4 e0;unfold panB;go_wp2;refine leaves_cons (f:=75) (args:=#[.pointer (some ⟨w.heap.size,0,none⟩),.pointer (some ⟨w.heap.size+1,0,none⟩),.pointer (some ⟨w.heap.size+2,0,none⟩),.pointer (some ⟨w.heap.size+3,0,none⟩)]) (by simp) (by simp[go_sem]) ?_;refine(rcatch_bad _ _ _ _ l cc _ _ _ _ _ g1.o g2.o g3.o g4.o (by omega)).mono ?_
    rintro e u' w7 ⟨rfl,rfl,ht,k1,k2,k3,k4⟩;have T7:=q_ (B6.o.trans (ht.below (B:=w.heap.size) (B6.o.size) (fun b hb e=>by omega)));have r1:w7.cell? ⟨w.heap.size,0,none⟩=some (.slice none 0 0):=k1.cell 0;have r2:w7.cell? ⟨w.heap.size+1,0,none⟩=some (.int .i64 81):=k2.cell 0;have r3:w7.cell? ⟨w.heap.size+2,0,none⟩=some (.int .i64 l):=k3.cell 0;have r4:w7.cell? ⟨w.heap.size+3,0,none⟩=some (.int .i64 cc):=k4.cell 0;clear ht k1 k2 k3 k4;simp[Leaves,settle,results,Tryz.results19,go_sem,r1,r2,r3,r4];rw[HO.o];exact⟨T7.o,_,_,rfl⟩
end Go.Proofs.YtnocnbklhikmnaaGreatDoor
