/- EvalPasses: what passes the look is played, or gives up by size, steps, numbers or places. Conditions: the card's own (the second form: what is read is of bulk at most 1048576). -/
import Derived.Test.YtpohlhkgbmdieaaGreatDoorW30
import Derived.ProofKit
import Derived.OpenShut
import Derived.ShutString
import Derived.Test.YtpohlhkgbmdieaaGreatDoorCards
import Derived.LaidMore
import Derived.Lay
import Derived.SevenTiedAt
import Derived.Stop.Joined
import Derived.Deep.DeepHandedRow
import Derived.Lib.LaidTab
import Derived.Shelf.Vars
import Derived.Test.YtpohlhkgbmdieaaGreatDoorTie
set_option linter.unusedVariables false
set_option maxRecDepth 1000000
set_option maxHeartbeats 16000000
namespace Go.Proofs.YtpohlhkgbmdieaaGreatDoor
variable{F:Nat}{e:Ending}{k:Nat}{l:List ByteArray}{m:M.dQ}{n:List M.Node}{now:ByteArray}{q:Nat}{tables:List M.Table}{u:Nat}{w w':World}{α:Type}
section
open Go Go.RowKit Go.BigFrame
theorem gI(n:Nat):((n:Int) !=(n:Int))=false:=by simp

def bq(d:M.bR)(v r:Value)(st:Bool)(x:M.Val)(used:Int):Array Value:=#[.int .u8 (d.f.toNat:Int),.int .u8 (d.c.toNat:Int),.int .u8 (d.r.toNat:Int),.int .u8 (d.e.toNat:Int),.int .u8 (d.s.toNat:Int),v,r,.bool st,.int .i64 x.kind,.string x.text,.int .i64 x.num,.bool x.truth,.int .i64 used]
end
section
open Go Go.RowKit Go.BigFrame Go.Maps Go.WideMaps
namespace M
noncomputable def pd(n:List Node)(m:dQ)(tables:List Table)(now:ByteArray)(F:Nat):Except Int St×Nat:=cut F 0 (aQ ⟨tables,now⟩ 20 ⟨canon m,[],false,[]⟩ (iY n))
def qw(n:List Node)(m:dQ)(tables:List Table):Prop:=valid m=true/\Passes n (bV n) (aG tables)
def WQ:bR:=⟨0,0,0,0,0⟩
end M
theorem Vm{w:World}{S:Nat->Prop}{A:Option Addr}{ts:List M.Table}(h:bn cV w S A ts.length ts):∀t∈ts,∀e∈t.entries,e.2.size<=1048576:=by
 intro t ht e he;obtain⟨i,hi,rfl⟩:=List.getElem_of_mem ht;obtain⟨ad,x,cs,rfl,hb,hx,hr,hc⟩:=h.NY (k:=i) hi;rw[e_ hi] at hx;cases hx;obtain⟨A2,c2,-,-,-,h2⟩:=cV.inv hr;obtain⟨j,hj,rfl⟩:=List.getElem_of_mem he;obtain⟨ad,y,cs,rfl,hb,hy,hr,hc⟩:=h2.NY (k:=j) hj;rw[e_ hj] at hy;cases hy;exact(ld.inv hr).2.2
theorem Rw{w:World}{g:Nat}{S:Nat->Prop}{m:M.dQ}{tables:List M.Table}{now:ByteArray}{A:Option Addr}{c:Nat}{tA:Option Addr}{tc:Nat}(hg:g<w.heap.size)(hS:∀b,S b->b<w.heap.size/\b≠g)(tx:now.size<=1048576)(aI:bX A m.aH.length c)(hl:bn aX w S A m.aH.length m.aH)(tG:bX tA tables.length tc)(El:bn cV w S tA tables.length tables)(hmx:0<w.heap.size/\0≠g/\∃z,w.cell? ⟨0,0,none⟩=some (.int .i64 z)):
 b9 w g (fun b=>b=g) S ⟨tables,now⟩ ⟨m,[],false,[]⟩ (sI m.d (.slice A m.aH.length c) (.slice tA tables.length tc) now) []:=
 ⟨rfl,rfl,rfl,tx,⟨A,c,rfl,aI,hl⟩,⟨tA,tc,rfl,tG,El⟩,aD.nil (fun b h=>h.elim),aD.nil (fun b h=>h.elim),⟨rfl,fun i b s hb=>by simp at hb⟩,List.nodup_nil,fun b hb=>by simp at hb,fun b hb=>by simp[sI,Value.ownBlock] at hb,fun b hb=>by simp[sI,Value.ownBlock] at hb,rfl,hS,fun b hb=>by subst hb;exact hg,fun s hs=>by simp at hs,by simp,by simp,Vm El,hmx⟩
theorem Rx{w:World}{g pb nb:Nat}{S:Nat->Prop}{c:M.Cx}{st:M.St}{p:PV}{t:M.Tree}{F:Nat}{A:Option Addr}{cap:Nat}{N:Nat->Prop}{dests:List ByteArray}{cS:List (ByteArray×Int)}(h1:ar w pb 58 #[.pointer (some ⟨g,0,none⟩)])(h2:ar w nb 22 #[.slice A (M.flat t).length cap])(hT:M.jP 20 1 t=true)(bf:M.mh t)(cj:M.bh dests (aG c.tables) 20 [] t= .ok cS)(hp:b9 w g (fun b=>b=g) S c st p [])(hgb:ar w g 64 (p.cells F 0))(hF:F<=2000)(hN:∀b,N b->b<w.heap.size/\¬b=g)(hs0:st.scopes=[])(r6:st.routes=[])(aI:bX A (M.flat t).length cap)(hl:bn ENode w N A (M.flat t).length (M.flat t)):
 Calls Tryz.prog 19 #[.pointer (some ⟨pb,0,none⟩),.pointer (some ⟨nb,0,none⟩)] w (cD w g (fun b=>b=g) c F (M.cut F 0 (M.aQ c 20 st t))):=by
 have K:=q_ ((BI 20).1 t g _ S N c st p [] F 0 dests [] cS A cap w hT bf cj hp hgb hF (Nat.zero_le _) hN (by rw[hs0];simp) (by rw[r6];simp) aI hl);have z1:=h1.cell;have z2:=h2.cell;clear h1 h2 hT bf cj hp hgb hN hs0 r6 aI hl;generalize M.cut F 0 (M.aQ c 20 st t)=r at K⊢;go_enter Tryz.func19,Tryz.ntmps19;go_wp2_with fail;refine K.o.mono ?_;rintro e w2 he;have HE:=q_ he;obtain⟨r,k⟩:=r;cases r with
 |error er=>
  obtain⟨-,rfl,-⟩:=he.kJ;clear he z1 z2;unfold dt at*;go_wp2;exact⟨rfl,HE.o⟩
 |ok JR=>
  obtain⟨-,rfl,-⟩:=he.oV;clear he z1 z2;go_wp2;go_end0;exact HE.o
structure KI(W0:World)(m:M.dQ)(i:Nat)(L:Nat->Bool)(vs:Nat->Value)(w:World):Prop where
 below:Below W0.heap.size W0 w
 one:L i=true->∃A c,vs i= .agg #[.int .u8 (m.d.f.toNat:Int),.int .u8 (m.d.c.toNat:Int),.int .u8 (m.d.r.toNat:Int),.int .u8 (m.d.e.toNat:Int),.int .u8 (m.d.s.toNat:Int),.slice A m.aH.length c]/\bX A m.aH.length c/\bn aX w (New W0 w) A m.aH.length m.aH
section
variable {W0 w w':World} {m:M.dQ} {i:Nat} {L:Nat->Bool} {vs:Nat->Value}
theorem KI.start:KI W0 m i (fun _=>false) vs {W0 with drawn:=W0.drawn+1}:=⟨⟨rfl,rfl,rfl,n_,fun _ _=>rfl⟩,fun h=>by cases h⟩
theorem KI.pure(h:KI W0 m i L vs w){k:Nat}{x:Value}(hk:k≠i):KI W0 m i (upd L k) (aS vs k x) w:=by
 have e:upd L k i=L i:=by simp[upd,Ne.symm hk]
 have v:aS vs k x i=vs i:=by simp[aS,Ne.symm hk]
 exact⟨h.below,by rw[e,v];exact h.one⟩
theorem KI.give(h:KI W0 m i L vs w){A:Option Addr}{c:Nat}(hb:Below w.heap.size w w')(aI:bX A m.aH.length c)(hl:bn aX w' (New w w') A m.aH.length m.aH):KI W0 m i (upd L i) (aS vs i (.agg #[.int .u8 (m.d.f.toNat:Int),.int .u8 (m.d.c.toNat:Int),.int .u8 (m.d.r.toNat:Int),.int .u8 (m.d.e.toNat:Int),.int .u8 (m.d.s.toNat:Int),.slice A m.aH.length c])) w':=
 ⟨h.below.trans (hb.mono h.below.size),fun _=>⟨A,c,by simp[aS],aI,hl.wide (fun b hb2=>⟨t_ h.below.size hb2.1,hb2.2⟩)⟩⟩
end
def Ry(j:Nat)(k z:Int):Value:=if j=5 then .tuple #[.int .i64 k,.int .i64 z] else if j=6\/j=8 then .int .i64 k else .int .i64 z
structure LI(W0:World)(rs:List ByteArray)(ok:Prop)(L:Nat->Bool)(vs:Nat->Value)(w:World):Prop where
 below:Below W0.heap.size W0 w
 two:L 2=true->∃D dc,vs 2= .slice D rs.length dc/\bX D rs.length dc/\bn bN w (New W0 w) D rs.length rs
 four:L 4=true->∃k z,((ok/\k=0/\z=0)\/(¬ok/\k≠0))/\vs 4= .tuple #[.int .i64 k,.int .i64 z]/\∀j,5<=j->j<=9->L j=true->vs j=Ry j k z
 wait:∀j,5<=j->j<=9->L j=true->L 4=true
section
variable {W0 w w':World} {rs:List ByteArray} {ok:Prop} {L:Nat->Bool} {vs:Nat->Value}
theorem LI.start:LI W0 rs ok (fun _=>false) vs {W0 with drawn:=W0.drawn+1}:=⟨⟨rfl,rfl,rfl,n_,fun _ _=>rfl⟩,(fun h=>by cases h),(fun h=>by cases h),fun _ _ _ h=>by cases h⟩
theorem LI.pure(h:LI W0 rs ok L vs w){k:Nat}{x:Value}(h2:k<4)(h3:k≠2):LI W0 rs ok (upd L k) (aS vs k x) w:=by
 have e:∀j,j≠k->upd L k j=L j:=fun j hj=>by simp[upd,hj]
 have v:∀j,j≠k->aS vs k x j=vs j:=fun j hj=>by simp[aS,hj]
 refine⟨h.below,by rw[e 2 (by omega),v 2 (by omega)];exact h.two,?_,fun j hj py hl=>by rw[e j (by omega)] at hl;rw[e 4 (by omega)];exact h.wait j hj py hl⟩;rw[e 4 (by omega),v 4 (by omega)];intro hl;obtain⟨k',z,a1,a2,a3⟩:=h.four hl;exact⟨k',z,a1,a2,fun j hj py hl=>by rw[e j (by omega)] at hl;rw[v j (by omega)];exact a3 j hj py hl⟩
theorem LI.give(h:LI W0 rs ok L vs w){D:Option Addr}{dc:Nat}(hb:Below w.heap.size w w')(aI:bX D rs.length dc)(hl:bn bN w' (New w w') D rs.length rs):LI W0 rs ok (upd L 2) (aS vs 2 (.slice D rs.length dc)) w':=by
 have e:∀j,j≠2->upd L 2 j=L j:=fun j hj=>by simp[upd,hj]
 have v:∀j,j≠2->aS vs 2 (.slice D rs.length dc) j=vs j:=fun j hj=>by simp[aS,hj]
 refine⟨h.below.trans (hb.mono h.below.size),fun _=>⟨D,dc,by simp[aS],aI,hl.wide (fun b hb2=>⟨t_ h.below.size hb2.1,hb2.2⟩)⟩,?_,fun j hj py hl=>by rw[e j (by omega)] at hl;rw[e 4 (by omega)];exact h.wait j hj py hl⟩;rw[e 4 (by omega),v 4 (by omega)];intro hl;obtain⟨k',z,a1,a2,a3⟩:=h.four hl;exact⟨k',z,a1,a2,fun j hj py hl=>by rw[e j (by omega)] at hl;rw[v j (by omega)];exact a3 j hj py hl⟩
theorem LI.says(h:LI W0 rs ok L vs w){k z:Int}(h4:L 4=false)(hb:Below w.heap.size w w')(hv:(ok/\k=0/\z=0)\/(¬ok/\k≠0)):LI W0 rs ok (upd L 4) (aS vs 4 (.tuple #[.int .i64 k,.int .i64 z])) w':=by
 have e:∀j,j≠4->upd L 4 j=L j:=fun j hj=>by simp[upd,hj]
 have v:∀j,j≠4->aS vs 4 (.tuple #[.int .i64 k,.int .i64 z]) j=vs j:=fun j hj=>by simp[aS,hj]
 refine⟨h.below.trans (hb.mono h.below.size),?_,fun _=>⟨k,z,hv,by simp[aS],fun j hj py hl=> ?_⟩,fun j hj py hl=>by simp[upd]⟩
 ·rw[e 2 (by omega),v 2 (by omega)]
  intro hl;obtain⟨D,dc,a1,a2,a3⟩:=h.two hl;exact⟨D,dc,a1,a2,(a3.below hb (fun b hb2=>hb2.2)).wide (New.WC hb.size)⟩
 ·rw[e j (by omega)] at hl
  rw[h.wait j hj py hl] at h4;cases h4
theorem LI.part(h:LI W0 rs ok L vs w){j:Nat}{k z:Int}(hj:5<=j)(py:j<=9)(h4:L 4=true)(hv:vs 4= .tuple #[.int .i64 k,.int .i64 z]):LI W0 rs ok (upd L j) (aS vs j (Ry j k z)) w:=by
 have e:∀i,i≠j->upd L j i=L i:=fun i hi=>by simp[upd,hi]
 have v:∀i,i≠j->aS vs j (Ry j k z) i=vs i:=fun i hi=>by simp[aS,hi]
 refine⟨h.below,by rw[e 2 (by omega),v 2 (by omega)];exact h.two,?_,fun i _ _ _=>by rw[e 4 (by omega)];exact h4⟩;rw[e 4 (by omega),v 4 (by omega)];intro hl;obtain⟨k',z',a1,a2,a3⟩:=h.four hl;rw[hv] at a2;have e2:k'=k/\z'=z:=by simp at a2;exact⟨a2.1.symm,a2.2.symm⟩
 obtain⟨rfl,rfl⟩:=e2;refine⟨k',z',a1,hv,fun i hi Jt hl=> ?_⟩;by_cases GL:i=j
 ·subst GL;simp[aS]
 ·rw[e i GL] at hl;rw[v i GL];exact a3 i hi Jt hl
end
theorem uf{fn:Func}{p u:Tmp}(hf:fn.results=#[.cell p 35,.tmp u]){W:World}{tmps:Array Value}{g:Nat}{v3:Value}{cs:Array Value}(hW:ar W g 35 cs)(hl:cs.size=13)(h2:tmps.getD p undef= .pointer (some ⟨g,0,none⟩))(h3:tmps.getD u undef=v3):
 (results fn tmps).run Tryz.prog W= .ok (.tuple #[.agg cs,v3]) W:=by
 rw[jr hf,h2,h3];have hi:(Tryz.prog.info? 35).map (·.size)=some cs.size:=by rw[hl];kernel_rfl
 have h:=run_loadVar_row (P:=Tryz.prog) W g 35 35 cs (0,0) _ hW Tryz.underlying35 rfl hi;simp only[asAddr,Sem.run_pure,Result.andThen_ok,h]
def Iq(w:World)(n:List M.Node)(m:M.dQ)(tables:List M.Table)(now:ByteArray)(F:Nat)(e:Ending)(w':World):Prop:=
 Below w.heap.size w w'/\∃cs k,e= .returned (.tuple #[.agg cs,.int .i64 k])/\
  ((¬M.qw n m tables/\k≠0/\cs=bq M.WQ (.slice none 0 0) (.slice none 0 0) false M.cW 0)\/
   (M.qw n m tables/\∃er u,M.pd n m tables now F=(.error er,u)/\k=er/\cs=bq M.WQ (.slice none 0 0) (.slice none 0 0) false M.cW u)\/
   (M.qw n m tables/\∃st u v rv,M.pd n m tables now F=(.ok st,u)/\k=0/\cs=bq st.m.d v rv st.stopped M.cW u/\uO.R w' (New w w') [v] st.m.aH/\cJ.R w' (New w w') [rv] st.routes))
theorem JY{g:Nat}{p:PV}{d:M.bR}{v rv:Value}{s:Bool}(h:ar w g 64 (p.cells F q))(hd:p.d=d)(hv:p.v=v)(hr:p.rv=rv)(hs:p.stop=s)(i:Nat):w.cell? ⟨g,i,none⟩=#[.int .u8 (d.f.toNat:Int),.int .u8 (d.c.toNat:Int),.int .u8 (d.r.toNat:Int),.int .u8 (d.e.toNat:Int),.int .u8 (d.s.toNat:Int),v,p.tv,.string p.now,.int .i64 (F:Nat),.int .i64 (q:Nat),rv,.bool s,p.sv][i]? :=by
 subst hd hv hr hs;exact h.cell i
def jJ:Array Value:=#[.int .u8 0,.int .u8 0,.int .u8 0,.int .u8 0,.int .u8 0,.slice none 0 0,.slice none 0 0,.bool false,.int .i64 0,.string ⟨#[]⟩,.int .i64 0,.bool false,.int .i64 0]
theorem Vn(n:List M.Node)(A:Option Addr)(c:Nat)(m:M.dQ)(mA:Option Addr)(mc:Nat)(tables:List M.Table)(tA:Option Addr)(tc:Nat)(now:ByteArray)(fuel:Int)(S:Nat->Prop)(w:World)(hS:∀b,S b->b<w.heap.size)(aI:bX A n.length c)(hl:bn ENode w S A n.length n)(EN:bX mA m.aH.length mc)(xk:bn aX w S mA m.aH.length m.aH)(tG:bX tA tables.length tc)(El:bn cV w S tA tables.length tables)(tx:now.size<=1048576)(hmx:0<w.heap.size/\∃z,w.cell? ⟨0,0,none⟩=some (.int .i64 z)):
 Calls Tryz.prog 7 #[.slice A n.length c,.agg #[.int .u8 (m.d.f.toNat:Int),.int .u8 (m.d.c.toNat:Int),.int .u8 (m.d.r.toNat:Int),.int .u8 (m.d.e.toNat:Int),.int .u8 (m.d.s.toNat:Int),.slice mA m.aH.length mc],.slice tA tables.length tc,.string now,.int .i64 fuel] w (Iq w n m tables now (M.df fuel)):=by
 have HS:=q_ hS;have OKN:=q_ aI;have Sy:=q_ hl;have OKM:=q_ EN;have Wu:=q_ xk;have OKT:=q_ tG;have HLT:=q_ El;have jcr:=q_ tx;have HMX:=q_ hmx;clear hS aI hl EN xk tG El tx hmx;have Tu:∀(fn:Fn) (first cap:Array Value) (w:World),(Instr.makeFunc fn first cap).run Tryz.prog w= .ok (.func fn first cap) w:=fun _ _ _ _=>rfl;obtain⟨w1,bu⟩:∃w1,w1=((w.alloc (.cells #[.slice A n.length c] 22)).alloc (.cells #[.int .u8 (m.d.f.toNat:Int),.int .u8 (m.d.c.toNat:Int),.int .u8 (m.d.r.toNat:Int),.int .u8 (m.d.e.toNat:Int),.int .u8 (m.d.s.toNat:Int),.slice mA m.aH.length mc] 27)).alloc (.cells jJ 35):=⟨_,rfl⟩
 have s1:(w.alloc (.cells #[.slice A n.length c] 22)).heap.size=w.heap.size+1:=by simp
 have s2:((w.alloc (.cells #[.slice A n.length c] 22)).alloc (.cells #[.int .u8 (m.d.f.toNat:Int),.int .u8 (m.d.c.toNat:Int),.int .u8 (m.d.r.toNat:Int),.int .u8 (m.d.e.toNat:Int),.int .u8 (m.d.s.toNat:Int),.slice mA m.aH.length mc] 27)).heap.size=w.heap.size+1+1:=by simp
 have NB1:=q_ (show ar w1 w.heap.size 22 #[.slice A n.length c] from bu▸((ar.new w _ _).alloc _).alloc _);have WR:=q_ (show ar w1 (w.heap.size+1) 27 #[.int .u8 (m.d.f.toNat:Int),.int .u8 (m.d.c.toNat:Int),.int .u8 (m.d.r.toNat:Int),.int .u8 (m.d.e.toNat:Int),.int .u8 (m.d.s.toNat:Int),.slice mA m.aH.length mc] from bu▸(s1▸ar.new _ _ _:ar _ (w.heap.size+1) _ _).alloc _);have OB1:=q_ (show ar w1 (w.heap.size+1+1) 35 jJ from bu▸s2▸ar.new _ _ _);have B1:=q_ (show Below w.heap.size w w1 from bu▸(((Below.refl _ w).alloc (n_) _).alloc (by omega) _).alloc (by omega) _);have tC:=bu.symm;unfold jJ at tC;clear bu s1 s2;go_enter Tryz.func7,Tryz.ntmps7;have zm:=WR.o.cell;go_wp2_with fail;clear tC zm;refine(uT m.d mA mc m.aH S w1 (fun b hb=>l_ (HS.o b hb) B1.o.size) OKM.o (Wu.o.below B1.o HS.o)).mono ?_
 rintro e w2 ⟨rfl,hb2⟩;have hv:M.valid ⟨m.d,m.aH⟩=M.valid m:=rfl;rw[hv];clear hv;have B2:=q_ (B1.o.trans (hb2.mono B1.o.size));have NB2:=q_ (NB1.o.below hb2 NB1.o.lt);have MB2:=q_ (WR.o.below hb2 WR.o.lt);have OB2:=q_ (OB1.o.below hb2 OB1.o.lt);have SZ2:=q_ (show w.heap.size+3<=w2.heap.size by have:=OB2.o.lt;omega);clear hb2 NB1 WR OB1 B1;cases hv:M.valid m with
 |false=>
  have NP:=q_ (show¬M.qw n m tables from fun h=>absurd (hv.symm.trans h.1) (by decide));clear hv;go_wp2_with (refine ah (cs':=jJ) rfl 35 (.tmp 10) (.tmp 19) rfl (w.heap.size+1+1) (by rfl) (by rfl) OB2.o rfl (by kernel_rfl) (by simp[jJ,Value.oneCell']) ?_;intro w3 k3 g3;have K3:=q_ k3;have G3:=q_ (ai B2.o g3 (by omega));clear k3 g3)
  (try simp only[Exit.inBlock,Exit.then]);exact bodyPost_ret (uf rfl K3.o rfl rfl rfl) rfl ⟨G3.o,jJ,51,rfl,.inl ⟨NP.o,by decide,rfl⟩⟩
 |true=>
  have HV:=q_ hv;clear hv;obtain⟨ok,lu⟩:∃ok:Prop,ok=M.Passes n (M.bV n) (aG tables):=⟨_,rfl⟩
  have KK:=q_ lu;clear lu
  have HX:=q_ (fun(W:World) (h:Below w2.heap.size w2 W)=>show(∀b,S b->b<W.heap.size)/\bn ENode W S A n.length n/\bn cV W S tA tables.length tables/\bn aX W S mA m.aH.length m.aH from
   have h2:=B2.o.trans (h.mono B2.o.size)
   ⟨fun b hb=>l_ (HS.o b hb) h2.size,Sy.o.below h2 HS.o,HLT.o.below h2 HS.o,Wu.o.below h2 HS.o⟩)
  go_wp2_with fail;refine ak (KP:=fun _ _=>False) 10 [2,4,5,6,7,8,9] (LI w2 (M.bV n) ok) (by kernel_rfl) (by kernel_rfl) LI.start (fun ch a2 w5 hd hk=>hk.elim) ?_
  iterate 2
   apply ae rfl
   ·intro L vs wx hI hR hL K hK
    have c0:=fun i=>(NB2.o.below hI.below NB2.o.lt).cell i;go_simp;exact hK _ (hI.pure (by decide) (by decide))
   intro KK af;go_simp;refine af _ ?_;clear af KK
  refine bc rfl ?_ ?_
  ·intro L vs wx hI hR hL K hK
   go_simp;exact(Ip n A c S wx (HX.o wx hI.below).1 OKN.o (HX.o wx hI.below).2.1).mono fun e w' ⟨h1,D,dc,h2,h3,h4⟩=>⟨_,h2,hK _ _ (hI.give h1 h3 h4)⟩
  intro YR af;go_simp;refine af _ ?_;clear af YR;apply ae rfl
  ·intro L vs wx hI hR hL K hK
   go_simp;exact hK _ (hI.pure (by decide) (by decide))
  intro KK af;go_simp;refine af _ ?_;clear af KK;refine bc rfl ?_ ?_
  ·intro L vs wx hI hR hL K hK
   obtain⟨D,dc,e2,jf,nU⟩:=hI.two (hR 2 (by kernel_rfl));go_simp
   exact(rF n A c (M.bV n) D dc tables tA tc (fun b=>S b\/New w2 wx b) wx (fun b hb=>hb.elim ((HX.o wx hI.below).1 b) (fun h=>h.2)) OKN.o ((HX.o wx hI.below).2.1.wide (fun b hb=> .inl hb)) jf (nU.wide (fun b hb=> .inr hb)) OKT.o ((HX.o wx hI.below).2.2.1.wide (fun b hb=> .inl hb))).mono fun e w' ⟨h1,h2⟩=>by
    rw[<-KK.o] at h2;rcases h2 with⟨h3,rfl⟩|⟨h3,k,z,h4,rfl⟩
    ·exact⟨_,rfl,hK _ _ (hI.says hL h1 (.inl ⟨h3,rfl,rfl⟩))⟩
    ·exact⟨_,rfl,hK _ _ (hI.says hL h1 (.inr ⟨h3,h4⟩))⟩
  intro YR af;go_simp;refine af _ ?_;clear af YR;refine bc rfl ?_ ?_
  ·intro L vs wx hI hR hL K hK
   obtain⟨k,z,-,e4,-⟩:=hI.four (hR 4 (by kernel_rfl));go_simp;exact hK _ _ (hI.part (j:=5) (by decide) (by decide) (hR 4 (by kernel_rfl)) e4)
  intro KK af;go_simp;refine af _ ?_;clear af KK;refine bc rfl ?_ ?_
  ·intro L vs wx hI hR hL K hK
   obtain⟨k,z,-,e4,hp⟩:=hI.four (hI.wait 5 (by decide) (by decide) (hR 5 (by kernel_rfl)));have e5:vs 5= .tuple #[.int .i64 k,.int .i64 z]:=hp 5 (by decide) (by decide) (hR 5 (by kernel_rfl));go_simp;exact hK _ _ (hI.part (j:=6) (by decide) (by decide) (hI.wait 5 (by decide) (by decide) (hR 5 (by kernel_rfl))) e4)
  intro KK af;go_simp;refine af _ ?_;clear af KK;refine bc rfl ?_ ?_
  ·intro L vs wx hI hR hL K hK
   obtain⟨k,z,-,e4,hp⟩:=hI.four (hI.wait 5 (by decide) (by decide) (hR 5 (by kernel_rfl)));have e5:vs 5= .tuple #[.int .i64 k,.int .i64 z]:=hp 5 (by decide) (by decide) (hR 5 (by kernel_rfl));go_simp;exact hK _ _ (hI.part (j:=7) (by decide) (by decide) (hI.wait 5 (by decide) (by decide) (hR 5 (by kernel_rfl))) e4)
  intro KK af;go_simp;refine af _ ?_;clear af KK;refine bc rfl ?_ ?_
  ·intro L vs wx hI hR hL K hK
   obtain⟨k,z,-,e4,hp⟩:=hI.four (hI.wait 6 (by decide) (by decide) (hR 6 (by kernel_rfl)));have e5:vs 6= .int .i64 k:=hp 6 (by decide) (by decide) (hR 6 (by kernel_rfl));go_simp;exact hK _ _ (hI.part (j:=8) (by decide) (by decide) (hI.wait 6 (by decide) (by decide) (hR 6 (by kernel_rfl))) e4)
  intro KK af;go_simp;refine af _ ?_;clear af KK;refine bc rfl ?_ ?_
  ·intro L vs wx hI hR hL K hK
   obtain⟨k,z,-,e4,hp⟩:=hI.four (hI.wait 7 (by decide) (by decide) (hR 7 (by kernel_rfl)));have e5:vs 7= .int .i64 z:=hp 7 (by decide) (by decide) (hR 7 (by kernel_rfl));go_simp;exact hK _ _ (hI.part (j:=9) (by decide) (by decide) (hI.wait 7 (by decide) (by decide) (hR 7 (by kernel_rfl))) e4)
  intro KK af;go_simp;refine af _ ?_;clear af KK;refine aw ?_;intro vs w3 hI;have B23:=q_ hI.below;obtain⟨k,z,H4,e4,hp⟩:=hI.four (by decide);have e5:vs 5= .tuple #[.int .i64 k,.int .i64 z]:=hp 5 (by decide) (by decide) (by decide);have e6:vs 6= .int .i64 k:=hp 6 (by decide) (by decide) (by decide);have e7:vs 7= .int .i64 z:=hp 7 (by decide) (by decide) (by decide);have e8:vs 8= .int .i64 k:=hp 8 (by decide) (by decide) (by decide);have e9:vs 9= .int .i64 z:=hp 9 (by decide) (by decide) (by decide);clear hI hp;intro YR af;have kg:=fun a w h=>af .normal a w h;simp only[List.drop_succ_cons,List.drop_nil];rw[e4,e5,e6,e7,e8,e9];clear e4 e5 e6 e7 e8 e9;have B3:=q_ (B2.o.trans (B23.o.mono B2.o.size));have NB3:=q_ (NB2.o.below B23.o NB2.o.lt);have Vk:=q_ (MB2.o.below B23.o MB2.o.lt);have OB3:=q_ (OB2.o.below B23.o OB2.o.lt);have SZ3:=q_ (t_ SZ2.o B23.o.size);rcases H4 with⟨aI,rfl,rfl⟩|⟨hno,hk⟩
  rotate_left
  ·have NP:=q_ (show¬M.qw n m tables from fun h=>hno (by rw[KK.o];exact h.2))
   have HK:=q_ hk;have q1:(k==0)=false:=by simp[hk]
   clear hno hk;go_wp2_with (refine ah (cs':=jJ) rfl 35 (.tmp 10) (.tmp 30) rfl (w.heap.size+1+1) (by rfl) (by rfl) OB3.o rfl (by kernel_rfl) (by simp[jJ,Value.oneCell']) ?_;intro w4 k4 g4;have K4:=q_ k4;have G4:=q_ (ai B3.o g4 (by omega));clear k4 g4)
   (try simp only[Exit.inBlock,Exit.then]);exact bodyPost_ret (uf rfl K4.o rfl rfl rfl) rfl ⟨G4.o,jJ,k,rfl,.inl ⟨NP.o,HK.o,rfl⟩⟩
  have HPL:=q_ (show M.qw n m tables from⟨HV.o,by rw[<-KK.o];exact aI⟩);clear aI;have zm:=Vk.o.cell;go_wp2_with fail;clear zm;have HX3:=q_ (show(∀b,S b->b<w3.heap.size)/\bn ENode w3 S A n.length n/\bn cV w3 S tA tables.length tables/\bn aX w3 S mA m.aH.length m.aH from HX.o w3 B23.o);refine(xP m.d mA mc m.aH S (.slice tA tables.length tc) now fuel w3 OKM.o HX3.o.2.2.2 HX3.o.1 ⟨_,_,_,rfl⟩).mono ?_
  rintro e w4 ⟨hb4,g,A2,c2,rfl,hg4,hk4,KU,hl4⟩;have hcm:M.canon ⟨m.d,m.aH⟩=M.canon m:=rfl;rw[hcm] at hk4 KU hl4;clear hcm;have B34:=q_ hb4;have G4:=q_ hk4;have GE:=q_ hg4;have OK4:=q_ KU;have L4:=q_ hl4;have B4:=q_ (B3.o.trans (hb4.mono B3.o.size));have NB4:=q_ (NB3.o.below hb4 NB3.o.lt);have OB4:=q_ (OB3.o.below hb4 OB3.o.lt);have NH:=q_ (ar.new w4 58 #[.pointer none]);have B5:=q_ ((Below.refl _ w4).alloc (n_) (.cells #[.pointer none] 58));clear hb4 hg4 hk4 KU hl4
  go_wp2_with (first
   |(refine bH rfl 58 (.tmp 14) (.tmp 36) rfl w4.heap.size 0 (.pointer (some ⟨g,0,none⟩)) _ (by rfl) (by rfl) (NH.o.cell 0) (NH.o.frozen 0) (by kernel_rfl) (by rfl) ?_;intro w6 hw6
     have g6:(w4.alloc (.cells #[.pointer none] 58)).grownBy w6 (some w4.heap.size):=hw6▸aV _ w4.heap.size 0 _;have PB6:=q_ (show ar w6 w4.heap.size 58 #[.pointer (some ⟨g,0,none⟩)] from hw6▸NH.o.one_set _);have B46:=q_ (ai B5.o g6 (n_));clear hw6 g6 NH B5)
   |fail)
  have Xq:=G4.o.lt;have B6:=q_ (B4.o.trans (B46.o.mono B4.o.size));have NB6:=q_ (NB4.o.below B46.o NB4.o.lt);have OB6:=q_ (OB4.o.below B46.o OB4.o.lt);have G6:=q_ (G4.o.below B46.o G4.o.lt);have HG:=q_ (show w.heap.size+3<=g/\g<w4.heap.size from⟨t_ SZ3.o GE.o,Xq⟩);have S6:=q_ (show w4.heap.size<w6.heap.size from PB6.o.lt);have HS6:=q_ (show∀b,(S b\/(New w3 w4 b/\b≠g))->b<w6.heap.size/\b≠g from fun b hb=>hb.elim (fun h=>⟨by have:=HS.o b h;have:=B6.o.size;omega,by have:=HS.o b h;have:=HG.o.1;omega⟩) (fun h=>⟨by have:=h.1.2;have:=S6.o;omega,h.2⟩))
  have PI6:=q_ (show b9 w6 g (fun b=>b=g) (fun b=>S b\/(New w3 w4 b/\b≠g)) ⟨tables,now⟩ ⟨M.canon m,[],false,[]⟩ (sI (M.canon m).d (.slice A2 (M.canon m).aH.length c2) (.slice tA tables.length tc) now) [] from
   Rw G6.o.lt HS6.o jcr.o OK4.o ((L4.o.below B46.o (fun b h=>h.1.2)).wide (fun b hb=> .inr hb)) OKT.o ((HLT.o.below B6.o HS.o).wide (fun b hb=> .inl hb)) ⟨l_ HMX.o.1 B6.o.size,by have:=HMX.o.1;have:=HG.o.1;omega,by obtain⟨z,hz⟩:=HMX.o.2;exact⟨z,(B6.o.cell (p:=⟨0,0,none⟩) HMX.o.1).trans hz⟩⟩)
  obtain⟨jbk,cS,cj⟩:=HPL.o.2;have D5:=M.yV jbk;have Vo:=q_ (show M.pd n m tables now (M.df fuel)=M.cut (M.df fuel) 0 (M.aQ ⟨tables,now⟩ 20 ⟨M.canon m,[],false,[]⟩ (M.iY n)) from rfl);generalize M.iY n=t at D5 cj Vo;obtain⟨hn,bf,hT,hlen⟩:=D5;subst hn;have HT:=q_ (And.intro hT (And.intro bf cj));clear hT bf cj hlen jbk;have HF2:=q_ (show M.df fuel<=2000 by unfold M.df;omega);generalize hFE:M.df fuel=F at G6 Vo HF2;have HFE:=q_ hFE;clear hFE;clear G4;obtain⟨Q,hQ⟩:∃Q:Int->World->Prop,Q=fun k W=>∃r,M.pd (M.flat t) m tables now F=r/\((∃er u,r=(.error er,u)/\k=er/\∃p',ar W g 64 (PV.cells p' F u))\/(∃st u,r=(.ok st,u)/\k=0/\∃(ml S':Nat->Prop) (p':PV) (JS:List Nat),b9 W g ml S' ⟨tables,now⟩ st p' JS/\ar W g 64 (PV.cells p' F u)/\∀b,b<w6.heap.size->ml b->b=g)):=⟨_,rfl⟩
  have HQ:=q_ hQ;clear hQ
  have Ws:=q_ (fun(W:World) (hW:Below w6.heap.size w6 W)=>show Calls Tryz.prog 19 #[.pointer (some ⟨w4.heap.size,0,none⟩),.pointer (some ⟨w.heap.size,0,none⟩)] W fun e w'=>ax (fun b=>b=g) W w'/\∃k,Q k w'/\((k=0/\e= .returned (.tuple #[]))\/(k≠0/\e=dt k)) from by
   refine(Rx (N:=S) (c:=⟨tables,now⟩) (PB6.o.below hW PB6.o.lt) (NB6.o.below hW NB6.o.lt) HT.o.1 HT.o.2.1 HT.o.2.2 (PI6.o.below hW) (G6.o.below hW G6.o.lt) HF2.o (fun b hb=>⟨by have:=HS.o b hb;have:=B6.o.size;have:=hW.size;omega,by have:=HS.o b hb;have:=HG.o.1;omega⟩) rfl rfl OKN.o (Sy.o.below (B6.o.trans (hW.mono B6.o.size)) HS.o)).mono ?_
   intro e w' he;rw[HQ.o];cases hr:M.cut F 0 (M.aQ ⟨tables,now⟩ 20 ⟨M.canon m,[],false,[]⟩ t) with
   |mk r u=>
   rw[hr] at he;have hrun:=Vo.o.trans hr;cases r with
   |error er=>
    obtain⟨h1,h2,p',h3⟩:=he.kJ;exact⟨h1,er,⟨_,hrun,.inl ⟨er,u,rfl,rfl,p',h3⟩⟩,.inr ⟨M.wK hr,h2⟩⟩
   |ok JR=>
    obtain⟨h1,h2,ml,S',p',JS,h3,h4,h5⟩:=he.oV;exact⟨h1,0,⟨_,hrun,.inr ⟨JR,u,rfl,rfl,ml,S',p',JS,h3,h4,fun b hb hm=>h5 b (l_ hb hW.size) hm⟩⟩,.inl ⟨rfl,h2⟩⟩)
  refine(EM ⟨w4.heap.size,0,none⟩ ⟨w.heap.size,0,none⟩ w6 (fun b=>b=g) Q (fun q hq=>by subst hq;exact G6.o.lt) Ws.o).mono ?_
  rintro e w9 ⟨k,w8,rfl,hq,hT8,hT9,hB9⟩;rw[HQ.o] at hq;obtain⟨r,hrun,hq⟩:=hq;have UH:=q_ (hT9.blk (hT8.blk PB6.o (by have:=HG.o.2;omega)) (by have:=S6.o;omega));have OB9:=q_ (hT9.blk (hT8.blk OB6.o (by have:=HG.o.1;omega)) (by have:=OB6.o.lt;omega));have B9:=q_ (show Below w.heap.size w w9 from(B6.o.trans (hT8.below B6.o.size (fun b hb e=>by have:=HG.o.1;omega))).trans (hT9.below (t_ B6.o.size hT8.size) (fun b hb e=>by have:=B6.o.size;omega)));have HGK:=q_ (show g<w6.heap.size by have:=HG.o.2;have:=S6.o;omega);have SZ9:=q_ (show w6.heap.size<=w9.heap.size from t_ hT8.size hT9.size);have T9:=q_ hT9;clear hT8 hT9 Ws HQ PI6 PB6 OB6 NB6 G6 HT KK HX HX3 HS6;rcases hq with⟨er,u,rfl,rfl,p',hk9⟩|⟨st,u,rfl,rfl,ml,S',p',JS,hpl,hk9,hmu⟩
  ·have G9:=q_ (T9.o.blk hk9 (by have:=HGK.o;omega))
   have HRN:=q_ (show M.pd (M.flat t) m tables now (M.df fuel)=(.error k,u) by rw[HFE.o];exact hrun);have hne:k≠0:=M.wK (Vo.o.symm.trans hrun);have q1:(k==0)=false:=by simp[hne]
   have zp:=UH.o.cell;have zu:w9.cell? ⟨g,9,none⟩=some (.int .i64 (u:Nat)):=G9.o.cell 9;clear hk9 hrun hne;go_wp2_with (refine ah (cs':=#[.int .u8 0,.int .u8 0,.int .u8 0,.int .u8 0,.int .u8 0,.slice none 0 0,.slice none 0 0,.bool false,.int .i64 0,.string ⟨#[]⟩,.int .i64 0,.bool false,.int .i64 (u:Nat)]) rfl 35 (.tmp 10) (.tmp 45) rfl (w.heap.size+1+1) (by rfl) (by rfl) OB9.o rfl (by kernel_rfl) (by simp[Value.oneCell']) ?_;intro wA kA gA;have KA:=q_ kA;have GA:=q_ (ai B9.o gA (by omega));clear kA gA)
   (try simp only[Exit.inBlock,Exit.then]);exact bodyPost_ret (uf rfl KA.o rfl rfl rfl) rfl ⟨GA.o,_,k,rfl,.inr (.inl ⟨HPL.o,k,u,HRN.o,rfl,rfl⟩)⟩
  have Nv:=hB9 rfl;clear hB9;have G9:=q_ (hk9.below Nv hk9.lt);have MU9:=q_ (show∀b,b<w6.heap.size->ml b->b=g from hmu);have HRN:=q_ (show M.pd (M.flat t) m tables now (M.df fuel)=(.ok st,u) by rw[HFE.o];exact hrun);have Vp:=hpl.below Nv;have HS9:=q_ (show∀b,S' b->b<w9.heap.size from fun b hb=>(Vp.far b hb).1);have ST9:=q_ Vp.stop;have DD9:=q_ Vp.d;obtain⟨A9,n9,hv9,jbl,Wa⟩:=Vp.msg;obtain⟨AR,nr,U'⟩:=Vp.routes.shape;have OR9:=q_ Vp.routes;have Ye:=q_ Vp.jV;have RO9:=q_ Vp.fB;have HV9:=q_ hv9;have RV9:=q_ U';have OK9:=q_ jbl;have L9:=q_ Wa;clear hk9 hpl hmu hrun Nv Vp hv9 U' jbl Wa T9;have q1:((0:Int)==0)=true:=rfl;go_wp2_with fail;refine ak (KP:=fun _ _=>False) 17 [4] (KI w9 st.m 4) (by kernel_rfl) (by kernel_rfl) KI.start (fun ch a2 w5 hd hk=>hk.elim) ?_
  iterate 4
   apply ae rfl
   ·intro L vs wx hI hR hL K hK
    first
    |have c0:=fun i=>(UH.o.below hI.below UH.o.lt).cell i
     go_simp;exact hK _ (hI.pure (by decide))
    |have c0:=fun i=>JY (G9.o.below hI.below G9.o.lt) DD9.o HV9.o RV9.o ST9.o i
     go_simp;exact hK _ (hI.pure (by decide))
   intro KK af;go_simp;refine af _ ?_;clear af KK
  refine bc rfl ?_ ?_
  ·intro L vs wx hI hR hL K hK
   go_simp;exact(Pb st.m.d A9 n9 st.m.aH S' wx OK9.o (L9.o.below hI.below HS9.o) (fun b hb=>l_ (HS9.o b hb) hI.below.size)).mono fun e w' ⟨A,c,h1,h2,h3,h4⟩=>⟨_,h1,hK _ _ (hI.give h4 h2 h3)⟩
  intro YR af;go_simp;refine af _ ?_;clear af YR
  iterate 12
   apply ae rfl
   ·intro L vs wx hI hR hL K hK
    first
    |have c0:=fun i=>(UH.o.below hI.below UH.o.lt).cell i
     go_simp;exact hK _ (hI.pure (by decide))
    |have c0:=fun i=>JY (G9.o.below hI.below G9.o.lt) DD9.o HV9.o RV9.o ST9.o i
     go_simp;exact hK _ (hI.pure (by decide))
   intro KK af;go_simp;refine af _ ?_;clear af KK
  refine aw ?_;intro vs wA hI;obtain⟨AC,nc,e4,jbm,hlC⟩:=hI.one (by decide);have BA:=q_ hI.below;have OKC:=q_ jbm;have LC:=q_ hlC;intro YR af;have kg:=fun a w h=>af .normal a w h;simp only[List.drop_succ_cons];rw[e4];clear hI e4 jbm hlC;have OBA:=q_ (OB9.o.below BA.o OB9.o.lt);have B1A:=q_ (B9.o.trans (BA.o.mono B9.o.size))
  have RB:=q_ (show∀b,p'.rv.ownBlock=some b->w6.heap.size<=b from fun b hb=>by
   rcases Nat.lt_or_ge b w6.heap.size with h|h
   ·exact absurd (MU9.o b h (Ye.o b hb).1) (Ye.o b hb).2
   ·exact h)
  have W36:=q_ (show w.heap.size+1+1<w6.heap.size by have:=HG.o;have:=S6.o;omega);go_wp2_with (refine ah (cs':=bq st.m.d (.slice AC st.m.aH.length nc) (.slice AR st.routes.length nr) st.stopped M.cW (u:Nat)) rfl 35 (.tmp 10) (.tmp 64) rfl (w.heap.size+1+1) (by rfl) (by rfl) OBA.o rfl (by kernel_rfl) (by simp[bq,Value.oneCell']) ?_;intro wB kB gB;have KB:=q_ kB;have GB:=q_ gB;have BB:=q_ (ai B1A.o gB (by omega));clear kB gB)
  (try refine kg _ _ ?_)
  (try simp only[Exit.inBlock,Exit.then]);have TB:ax (fun b=>b=w.heap.size+1+1) wA wB:=(ax.refl _ wA).grown (fun _=>rfl) GB.o;refine bodyPost_ret (uf rfl KB.o rfl rfl rfl) rfl ⟨BB.o,_,0,rfl,.inr (.inr ⟨HPL.o,st,u,_,_,HRN.o,rfl,rfl,?_,?_⟩)⟩
  ·exact aU.zZ ((TB.nu LC.o (fun b hb=>⟨hb.2,by have:=hb.1;have:=SZ9.o;have:=W36.o;omega⟩)).wide (fun b hb=>⟨t_ B9.o.size hb.1,l_ hb.2 GB.o.size⟩)) OKC.o
  ·have ho:=(OR9.o.below BA.o).aK GB.o (fun e=>by have:=RB.o _ e;have:=W36.o;omega) (fun h=>h)
   rw[<-RV9.o];exact ho.reads (fun b hb=>hb.elim) (fun b hb=>⟨by have:=RB.o b hb;have:=W36.o;omega,(ho.aJ hb).2⟩) (by have:=RO9.o;omega)
namespace M
theorem JZ{n:List Node}{m:dQ}{tables:List Table}{now:ByteArray}{F u:Nat}{r:Except Int St}(h:pd n m tables now F=(r,u)):u<=F:=by
 unfold pd at h;by_cases hq:0+(aQ ⟨tables,now⟩ 20 ⟨canon m,[],false,[]⟩ (iY n)).2<=F
 ·rw[bZ hq] at h;injection h with h1 h2;omega
 ·rw[eQ hq] at h;injection h with h1 h2;omega
end M
def BM(u:Nat):Array Value:=#[.int .u8 0,.int .u8 0,.int .u8 0,.int .u8 0,.int .u8 0,.slice none 0 0,.slice none 0 0,.bool false,.int .i64 0,.string ⟨#[]⟩,.int .i64 0,.bool false,.int .i64 (u:Nat)]
theorem Iq.cases(h:Iq w n m tables now F e w'):
 (∃k u,k≠0/\u<=F/\e= .returned (.tuple #[.agg (BM u),.int .i64 k]))\/(M.qw n m tables/\∃st u,M.pd n m tables now F=(.ok st,u)):=by
 obtain⟨hb,cs,k,rfl,⟨h1,h2,rfl⟩|⟨h1,er,u,h2,rfl,rfl⟩|⟨h1,st,u,v,rv,h2,-⟩⟩:=h
 ·exact .inl ⟨k,0,h2,Nat.zero_le _,rfl⟩
 ·exact .inl ⟨k,u,M.wK h2,M.JZ h2,rfl⟩
 ·exact .inr ⟨h1,st,u,h2⟩
theorem Iq.ok{st:M.St}(h:Iq w n m tables now F e w')(hp:M.qw n m tables)(hr:M.pd n m tables now F=(.ok st,u)):
 ∃A1 c1 A2 c2,e= .returned (.tuple #[.agg (bq st.m.d (.slice A1 st.m.aH.length c1) (.slice A2 st.routes.length c2) st.stopped M.cW (u:Nat)),.int .i64 0])/\uO.R w' (New w w') [.slice A1 st.m.aH.length c1] st.m.aH/\cJ.R w' (New w w') [.slice A2 st.routes.length c2] st.routes:=by
 obtain⟨hb,cs,k,rfl,⟨h1,h2,rfl⟩|⟨h1,er,u2,h2,rfl,rfl⟩|⟨h1,st2,u2,v,rv,h2,rfl,rfl,h3,h4⟩⟩:=h
 ·exact absurd hp h1
 ·rw[hr] at h2;injection h2 with h2 h3;cases h2
 ·rw[hr] at h2
  injection h2 with h2 h5;cases h2;subst h5;obtain⟨A1,c1,rfl,-,-⟩:=aU.av (E:=aX) h3;obtain⟨A2,c2,rfl,-,-⟩:=aU.av (E:=bN) h4;exact⟨A1,c1,A2,c2,rfl,h3,h4⟩
theorem Iq.err{er:Int}(h:Iq w n m tables now F e w')(hp:M.qw n m tables)(hr:M.pd n m tables now F=(.error er,u)):
 e= .returned (.tuple #[.agg (BM u),.int .i64 er]):=by
 obtain⟨hb,cs,k,rfl,⟨h1,h2,rfl⟩|⟨h1,er2,u2,h2,rfl,rfl⟩|⟨h1,st2,u2,v,rv,h2,rfl,rfl,h3,h4⟩⟩:=h
 ·exact absurd hp h1
 ·rw[hr] at h2;injection h2 with h2 h3;cases h2;subst h3;rfl
 ·rw[hr] at h2;injection h2 with h2 h3;cases h2
end
namespace M
theorem jcT{β:Type}(em:β->Bool):∀(l:List β) (x:β),x∈l.takeWhile em->em x=true
 |[],x,h=>by cases h
 |y::l,x,h=>by
  rw[List.takeWhile_cons] at h;by_cases hy:em y=true
  ·rw[if_pos hy] at h
   rcases List.mem_cons.1 h with rfl|h
   ·exact hy
   ·exact jcT em l x h
  ·rw[if_neg hy] at h;cases h
theorem N0{β:Type}{C:List β->Prop}(h0:C [])(h1:∀l x,C l->C (l++[x]))(l:List β):C l:=by
 have:∀r:List β,C r.reverse:=by
  intro r
  induction r with
  |nil=>exact h0
  |cons x r ih=>rw[List.reverse_cons];exact h1 _ _ ih
 have h:=this l.reverse
 rwa [List.reverse_reverse] at h
theorem jdi{β:Type}(em:β->Bool)(l:List β):∃t,l=bw em l++t/\∀x∈t,em x=true:=by
 unfold bw;refine⟨(l.reverse.takeWhile em).reverse,?_,fun x hx=> ?_⟩
 ·rw[<-List.reverse_append,List.takeWhile_append_dropWhile,List.reverse_reverse]
 ·exact jcT em _ x (by simpa using hx)
theorem trimEnd_mem{β:Type}{em:β->Bool}{l:List β}{x:β}(h:x∈bw em l):x∈l:=by
 obtain⟨t,ht,_⟩:=jdi em l;rw[ht];exact List.mem_append_left _ h
theorem trimEnd_short{β:Type}(em:β->Bool)(l:List β):(bw em l).length<=l.length:=by
 obtain⟨t,ht,_⟩:=jdi em l;have:=congrArg List.length ht;rw[List.length_append] at this;omega
theorem jcY{β:Type}(em:β->Bool)(l:List β):bw em l=[]\/∃l' x,bw em l=l'++[x]/\em x=false:=by
 refine N0 (C:=fun l=>bw em l=[]\/∃l' x,bw em l=l'++[x]/\em x=false) (.inl rfl) (fun l x ih=> ?_) l
 ·rw[cI]
  by_cases h:em x=true
  ·rw[if_pos h];exact ih
  ·rw[if_neg h];exact .inr ⟨l,x,rfl,by simpa using h⟩
theorem trimEnd_id{β:Type}{em:β->Bool}{l:List β}(h:l=[]\/∃l' x,l=l'++[x]/\em x=false):bw em l=l:=by
 rcases h with rfl|⟨l',x,rfl,hx⟩
 ·rfl
 ·rw[cI,if_neg (by simp[hx])]
theorem trimEnd_map{β:Type}{em:β->Bool}{f:β->β}{l:List β}(hf:∀x∈l,f (f x)=f x):bw em ((bw em (l.map f)).map f)=bw em (l.map f):=by
 have h:(bw em (l.map f)).map f=bw em (l.map f):=by
  have:∀x∈bw em (l.map f),f x=x:=by
   intro x hx;obtain⟨y,hy,rfl⟩:=List.mem_map.1 (trimEnd_mem hx);exact hf y hy
  rw[List.map_congr_left this,List.map_id']
 rw[h];exact trimEnd_id (jcY em _)
theorem jdC(c:List ByteArray):FY (FY c)=FY c:=trimEnd_id (jcY _ _)
theorem jdD(r:List (List ByteArray)):FZ (FZ r)=FZ r:=trimEnd_map fun x _=>jdC x
theorem jdE(f:List (List (List ByteArray))):Ag (Ag f)=Ag f:=trimEnd_map fun x _=>jdD x
theorem jdF(s:Seg):eO (eO s)=eO s:=by
 unfold eO;rw[Seg.mk.injEq];exact⟨rfl,trimEnd_map fun x _=>jdE x⟩
theorem jcV(m:dQ):canon (canon m)=canon m:=by
 unfold canon;rw[dQ.mk.injEq];refine⟨rfl,?_⟩;show(m.aH.map eO).map eO=m.aH.map eO
 rw[List.map_map];exact List.map_congr_left fun s _=>jdF s
def jdG(c:List ByteArray):Prop:=c.length<=50
def jdH(r:List (List ByteArray)):Prop:=r.length<=50/\∀c∈r,jdG c
def jdI(f:List (List (List ByteArray))):Prop:=f.length<=50/\∀r∈f,jdH r
def jcU(l:List (List (List (List ByteArray)))):Prop:=l.length<=100/\∀f∈l,jdI f
theorem jcZ(s:Seg):fits s=true<->jcU s.fields:=by
 unfold fits jcU jdI jdH jdG;simp only[Bool.and_eq_true,decide_eq_true_eq,List.all_eq_true]
theorem jdJ{c:List ByteArray}(h:jdG c):jdG (FY c):=t_ (trimEnd_short _ _) h
theorem jdK{r:List (List ByteArray)}(h:jdH r):jdH (FZ r):=by
 refine⟨t_ (trimEnd_short _ _) (by simpa using h.1),fun c hc=> ?_⟩;obtain⟨y,hy,rfl⟩:=List.mem_map.1 (trimEnd_mem hc);exact jdJ (h.2 y hy)
theorem jdL{f:List (List (List ByteArray))}(h:jdI f):jdI (Ag f):=by
 refine⟨t_ (trimEnd_short _ _) (by simpa using h.1),fun c hc=> ?_⟩;obtain⟨y,hy,rfl⟩:=List.mem_map.1 (trimEnd_mem hc);exact jdK (h.2 y hy)
theorem jc3{l:List (List (List (List ByteArray)))}(h:jcU l):jcU (bw List.isEmpty (l.map Ag)):=by
 refine⟨t_ (trimEnd_short _ _) (by simpa using h.1),fun c hc=> ?_⟩;obtain⟨y,hy,rfl⟩:=List.mem_map.1 (trimEnd_mem hc);exact jdL (h.2 y hy)
theorem jdp{a b:ByteArray}(h:bJ a b=true):a=b:=by
 unfold bJ at h;have:=eq_of_beq h;cases a;cases b;simp only[Array.toList_inj] at this;exact congrArg _ this
theorem eqT_self(a:ByteArray):bJ a a=true:=by unfold bJ;exact beq_self_eq_true _
theorem jdM{f:List (List (List ByteArray))}{v:ByteArray}(h:fN f v=true):f=[[[v]]]:=by
 unfold fN at h;split at h
 ·rw[jdp h]
 ·cases h
theorem jdk(v:ByteArray):fN [[[v]]] v=true:=eqT_self v
theorem jc7{v:ByteArray}(h:v.data.toList.isEmpty=false):Ag [[[v]]]=[[[v]]]:=by
 have h1:FY [v]=[v]:=trimEnd_id (.inr ⟨[],v,rfl,h⟩)
 have h2:FZ [[v]]=[[v]]:=by
  show bw List.isEmpty [FY [v]]=[[v]];rw[h1];exact trimEnd_id (.inr ⟨[],[v],rfl,rfl⟩)
 show bw List.isEmpty [FZ [[v]]]=[[[v]]];rw[h2];exact trimEnd_id (.inr ⟨[],[[v]],rfl,rfl⟩)
theorem jdN{β:Type}{em:β->Bool}(a b:β)(l:List β)(hb:em b=false):∃l',bw em (a::b::l)=a::b::l':=by
 refine N0 (C:=fun l=>∃l',bw em (a::b::l)=a::b::l') ⟨[],trimEnd_id (.inr ⟨[a],b,rfl,hb⟩)⟩ (fun l x ih=> ?_) l
 ·rw[show a::b::(l++[x])=(a::b::l)++[x] from rfl,cI]
  by_cases h:em x=true
  ·rw[if_pos h];exact ih
  ·rw[if_neg h];exact⟨l++[x],rfl⟩
structure Head(d:bR)(s:Seg):Prop where
 name:s.name=x6
 fits:jcU s.fields
 two:∃l,s.fields=[[[uJ d]]]::[[[uK d]]]::l
structure jdO(s:Seg):Prop where
 isName:isName s.name=true
 not:s.name≠x6
 fits:jcU s.fields
structure Valid(m:dQ):Prop where
 signs:P.valid m.d.list=true
 aH:∃s l,m.aH=s::l/\l.length<=199/\Head m.d s/\∀x∈l,jdO x
theorem jc8{a b:ByteArray}:bJ a b=false<->a≠b:=by
 constructor
 ·intro h e;subst e;rw[eqT_self] at h;cases h
 ·intro h
  cases hq:bJ a b with
  |false=>rfl
  |true=>exact absurd (jdp hq) h
theorem jd8(f:Seg->Nat->Bool):∀(l:List Seg) (k:Nat),(l.zipIdx k).all (fun(s,i)=>f s i)=true<->∀(j:Nat) (s:Seg),l[j]? =some s->f s (k+j)=true
 |[],k=>by simp
 |x::l,k=>by
  rw[List.zipIdx_cons,List.all_cons,Bool.and_eq_true,jd8 f l (k+1)];constructor
  ·rintro⟨h1,h2⟩ j s hj
   cases j with
   |zero=>simp only[List.getElem?_cons_zero,Option.some.injEq] at hj;subst hj;exact h1
   |succ j=>have:=h2 j s (by simpa using hj);rw[show k+(j+1)=k+1+j by omega];exact this
  ·intro h
   refine⟨h 0 x rfl,fun j s hj=> ?_⟩;have:=h (j+1) s (by simpa using hj);rw[show k+1+j=k+(j+1) by omega];exact this
theorem jc1(m:dQ):valid m=true<->Valid m:=by
 obtain⟨d,aH⟩:=m;unfold valid;simp only[Bool.and_eq_true,decide_eq_true_eq];rw[jd8 (fun s i=>lM i s)];constructor
 ·rintro⟨⟨⟨⟨h1,h2⟩,h3⟩,h4⟩,h5⟩
  cases aH with
  |nil=>simp at h2
  |cons s l=>
   have hs:=h4 0 s rfl;unfold lM at hs;simp only[Bool.and_eq_true,Nat.zero_add,decide_true] at hs;refine⟨h1,s,l,rfl,by simp at h3;omega,⟨jdp (eq_of_beq hs.1.2),(jcZ s).1 hs.2,?_⟩,fun x hx=> ?_⟩
   ·simp only at h5
    split at h5
    ·rename_i a b fl hf
     simp only[Bool.and_eq_true] at h5;exact⟨fl,by rw[hf,jdM h5.1,jdM h5.2]⟩
    ·cases h5
   ·obtain⟨j,hj⟩:=List.getElem?_of_mem hx
    have hs:=h4 (j+1) x (by simpa using hj);unfold lM at hs;simp only[Bool.and_eq_true] at hs;refine⟨hs.1.1,?_,(jcZ x).1 hs.2⟩;rw[show decide (0+(j+1)=0)=false from decide_eq_false (by omega)] at hs;exact jc8.1 (eq_of_beq hs.1.2)
 ·rintro⟨h1,s,l,h2,h3,h4,h5⟩
  simp only at h1 h2 h4;subst h2;obtain⟨fl,kf⟩:=h4.two;refine⟨⟨⟨⟨h1,by simp⟩,by simp;omega⟩,fun j x hj=> ?_⟩,?_⟩
  ·cases j with
   |zero=>
    simp only[List.getElem?_cons_zero,Option.some.injEq] at hj;subst hj;unfold lM;simp only[Bool.and_eq_true];refine⟨⟨by rw[h4.name];decide,by rw[h4.name,eqT_self];rfl⟩,(jcZ _).2 h4.fits⟩
   |succ j=>
    have ho:=h5 x (m_ (by simpa using hj));unfold lM;simp only[Bool.and_eq_true];refine⟨⟨ho.isName,?_⟩,(jcZ _).2 ho.fits⟩;rw[show decide (0+(j+1)=0)=false from decide_eq_false (by omega),jc8.2 ho.not];rfl
  ·simp only
   rw[kf];simp only[Bool.and_eq_true];exact⟨jdk _,jdk _⟩
theorem jdY(d:bR):(uJ d).data.toList.isEmpty=false:=rfl
theorem jdZ(d:bR):(uK d).data.toList.isEmpty=false:=rfl
theorem Head.canon{d:bR}{s:Seg}(h:Head d s):Head d (eO s):=by
 obtain⟨l,hl⟩:=h.two;refine⟨h.name,jc3 h.fits,?_⟩;show∃l,bw List.isEmpty (s.fields.map Ag)=_;rw[hl,List.map_cons,List.map_cons,jc7 (jdY d),jc7 (jdZ d)];exact jdN _ _ _ rfl
theorem jdO.canon{s:Seg}(h:jdO s):jdO (eO s):=⟨h.isName,h.not,jc3 h.fits⟩
theorem Valid.canon{m:dQ}(h:Valid m):Valid (canon m):=by
 obtain⟨h1,s,l,h2,h3,h4,h5⟩:=h;refine⟨h1,eO s,l.map eO,?_,by simpa using h3,h4.canon,fun x hx=> ?_⟩
 ·show m.aH.map eO=_
  rw[h2];rfl
 ·obtain⟨y,hy,rfl⟩:=List.mem_map.1 hx
  exact(h5 y hy).canon
theorem jc0{β:Type}(none:β)(l:List β)(n:Nat)(f:β->β):(with_ none l n f).length=max l.length n:=by
 unfold with_;rw[List.length_modify,List.length_append,List.length_replicate];omega
theorem jc9{β:Type}{none:β}{l:List β}{n:Nat}{f:β->β}{P:β->Prop}(hl:∀x∈l,P x)(hn:P none)(hf:∀x,P x->P (f x)):∀x∈with_ none l n f,P x:=by
 intro x hx;unfold with_ at hx
 have hq:∀y∈l++List.replicate (n-l.length) none,P y:=by
  intro y hy;rcases List.mem_append.1 hy with h|h
  ·exact hl y h
  ·rw[List.eq_of_mem_replicate h];exact hn
 obtain⟨j,hj⟩:=List.getElem?_of_mem hx;rw[List.getElem?_modify] at hj;obtain⟨y,hy,rfl⟩:=Option.map_eq_some_iff.1 hj;have:=hq y (m_ hy);split
 ·exact hf _ this
 ·exact this
theorem jeb:jdG []:=Nat.zero_le _
theorem jec:jdH []:=⟨Nat.zero_le _,fun _ h=>by cases h⟩
theorem jed:jdI []:=⟨Nat.zero_le _,fun _ h=>by cases h⟩
theorem jdl{l:List (List (List (List ByteArray)))}{p:Path}{v:ByteArray}(h:jcU l)(h1:p.aR<=100)(h2:p.rep<=50)(h3:p.comp<=50)(h4:p.sub<=50):jcU (xn l p v):=by
 unfold xn;refine⟨by rw[jc0];have:=h.1;omega,jc9 h.2 jed fun f hf=>⟨by rw[jc0];have:=hf.1;omega,jc9 hf.2 jec fun r hr=>⟨by rw[jc0];have:=hr.1;omega,jc9 hr.2 jeb fun c hc=> ?_⟩⟩⟩;show(with_ _ _ _ _).length<=50
 rw[jc0];have:c.length<=50:=hc;omega
theorem jel{β:Type}{none:β}(a b:β)(l:List β)(n:Nat)(f:β->β)(h:3<=n):∃l',with_ none (a::b::l) n f=a::b::l':=by
 unfold with_;obtain⟨k,rfl⟩:∃k,n=k+3:=⟨n-3,by omega⟩
 rw[show k+3-1=k+1+1 by omega];exact⟨_,rfl⟩
theorem jdq(name:ByteArray):∀(l:List Seg) (aP i:Int),at_ name l aP i= -1\/∃(j:Nat) (s:Seg),at_ name l aP i=i+j/\l[j]? =some s/\s.name=name
 |[],aP,i=> .inl rfl
 |x::l,aP,i=>by
  unfold at_;by_cases h:bJ x.name name=true
  ·rw[if_pos h]
   by_cases h1:aP=1
   ·rw[if_pos h1];exact .inr ⟨0,x,by simp,rfl,jdp h⟩
   ·rw[if_neg h1]
    rcases jdq name l (aP-1) (i+1) with hq|⟨j,s,h2,h3,h4⟩
    ·exact .inl hq
    ·exact .inr ⟨j+1,s,by rw[h2];omega,by simpa using h3,h4⟩
  ·rw[if_neg h]
   rcases jdq name l aP (i+1) with hq|⟨j,s,h2,h3,h4⟩
   ·exact .inl hq
   ·exact .inr ⟨j+1,s,by rw[h2];omega,by simpa using h3,h4⟩
theorem jc'(name:ByteArray):∀(l:List Seg) (aP i:Int),1<=aP->aP<=((l.filter fun s=>bJ s.name name).length:Int)->at_ name l aP i≠-1\/i<0
 |[],aP,i,h1,h2=>by simp at h2;omega
 |x::l,aP,i,h1,h2=>by
  unfold at_;by_cases h:bJ x.name name=true
  ·rw[if_pos h]
   rw[List.filter_cons_of_pos (p:=fun s:Seg=>bJ s.name name) h] at h2;by_cases h3:aP=1
   ·rw[if_pos h3];omega
   ·rw[if_neg h3]
    rcases jc' name l (aP-1) (i+1) (by omega) (by simp at h2;omega) with hq|hq
    ·exact .inl hq
    ·exact .inr (by omega)
  ·rw[if_neg h]
   rw[List.filter_cons_of_neg (p:=fun s:Seg=>bJ s.name name) h] at h2;rcases jc' name l aP (i+1) h1 h2 with hq|hq
   ·exact .inl hq
   ·exact .inr (by omega)
theorem jee{l:List Seg}{name:ByteArray}{aP:Int}(h1:1<=aP)(h2:aP<=((l.filter fun s=>bJ s.name name).length:Int)):∃(j:Nat) (s:Seg),at0 l name aP=j/\l[j]? =some s/\s.name=name:=by
 rcases jc' name l aP 0 h1 h2 with h|h
 ·rcases jdq name l aP 0 with hq|⟨j,s,h3,h4,h5⟩
  ·exact absurd hq h
  ·exact⟨j,s,by unfold at0;rw[h3];omega,h4,h5⟩
 ·omega
theorem jdr{p:Path}{b:Bool}(h:may p b=true):bM p=true/\(p.aN=x6->p.aR≠1/\p.aR≠2/\p.aP<=1)/\(0<p.aR\/b=true/\p.aN≠x6):=by
 unfold may at h;simp only[Bool.and_eq_true,Bool.or_eq_true,Bool.not_eq_true',Bool.and_eq_false_iff,Bool.or_eq_false_iff,decide_eq_true_eq,decide_eq_false_iff_not] at h;obtain⟨⟨h1,h2⟩,h3⟩:=h;refine⟨h1,fun e=> ?_,?_⟩
 ·rcases h2 with h2|⟨⟨h2,h4⟩,h5⟩
  ·exact absurd e (jc8.1 h2)
  ·exact⟨h2,h4,by omega⟩
 ·rcases h3 with h3|⟨h3,h4⟩
  ·exact .inl h3
  ·exact .inr ⟨h3,jc8.1 h4⟩
theorem jdm{p:Path}(h:bM p=true):isName p.aN=true/\1<=p.aP/\(p.aR=0\/1<=p.aR/\1<=p.rep/\1<=p.comp/\1<=p.sub):=by
 unfold bM CO at h;simp only[Bool.and_eq_true,Bool.or_eq_true,decide_eq_true_eq] at h;refine⟨h.1.1,h.1.2.1,?_⟩;rcases h.2 with h2|h2
 ·exact .inl h2.1
 ·exact .inr ⟨h2.1.1.1.1,h2.1.1.2.1,h2.1.2.1,h2.2.1⟩
theorem jdP{m:dQ}{p:Path}{b:Bool}(h:asked m p b=0):may p b=true:=by
 unfold asked at h;split at h
 ·cases h
 ·split at h
  ·cases h
  ·rename_i hq;simpa using hq
theorem Valid.put{m:dQ}(h:Valid m){p:Path}{v:ByteArray}{j:Nat}{s:Seg}(hm:may p true=true)(hf:0<p.aR)(hj:m.aH[j]? =some s)(hs:s.name=p.aN)(h1:p.aR<=100)(h2:p.rep<=50)(h3:p.comp<=50)(h4:p.sub<=50):
 Valid {d:=m.d,aH:=m.aH.modify j (kp p v)}:=by
 obtain⟨g1,s0,l,g2,g3,g4,g5⟩:=h;obtain⟨d,aH⟩:=m;simp only at g1 g2 g4 hj;subst g2;obtain⟨m1,m2,-⟩:=jdr hm;cases j with
 |zero=>
  simp only[List.getElem?_cons_zero,Option.some.injEq] at hj;subst hj;refine⟨g1,kp p v s0,l,rfl,g3,⟨g4.name,jdl g4.fits h1 h2 h3 h4,?_⟩,g5⟩;obtain⟨fl,kf⟩:=g4.two;have hq:=m2 (hs.symm.trans g4.name);show∃l,xn s0.fields p v=_;unfold xn;rw[kf];exact jel _ _ _ _ _ (by omega)
 |succ j=>
  refine⟨g1,s0,l.modify j (kp p v),rfl,by rw[List.length_modify];exact g3,g4,fun x hx=> ?_⟩;obtain⟨i,hi⟩:=List.getElem?_of_mem hx;rw[List.getElem?_modify] at hi;obtain⟨y,hy,rfl⟩:=Option.map_eq_some_iff.1 hi;have ho:=g5 y (m_ hy);split
  ·exact⟨ho.isName,ho.not,jdl ho.fits h1 h2 h3 h4⟩
  ·exact ho
theorem jem{p:Path}(h:may p false=true):may p true=true/\0<p.aR:=by
 have h3:0<p.aR:=by
  rcases(jdr h).2.2 with h|h
  ·exact h
  ·cases h.1
 refine⟨?_,h3⟩;unfold may at h⊢;simp only[Bool.and_eq_true,Bool.or_eq_true,decide_eq_true_eq] at h⊢;exact⟨h.1,.inl h3⟩
theorem jd0{d:bR}{s:Seg}{l:List Seg}(h:Head d s)(h2:∀x∈l,jdO x):((s::l).filter fun x=>bJ x.name x6)=[s]:=by
 rw[List.filter_cons_of_pos (by rw[h.name];exact eqT_self _)];rw[List.filter_eq_nil_iff.2 fun x hx=>by rw[jc8.2 (h2 x hx).not];decide]
theorem Valid.set{m:dQ}(h:Valid m){p:Path}{v:ByteArray}(he:lx m p=0):Valid (uL m p v):=by
 unfold lx at he;simp only at he;split at he
 ·rename_i hn;exact absurd he hn
 ·rename_i hn
  have ha:asked m p false=0:=by simpa using hn
  split at he
  ·cases he
  ·rename_i hb
   split at he
   ·cases he
   ·rename_i hc
    split at he
    ·cases he
    ·rename_i hd
     obtain⟨m1,m2⟩:=jem (jdP ha);obtain⟨k1,k2,-⟩:=jdr m1;obtain⟨o1,o2,-⟩:=jdm k1;unfold uL;apply Valid.canon
     have hg:Valid {d:=m.d,aH:=grown m p}:=by
      unfold grown;split
      ·rename_i ho
       obtain⟨g1,s0,l,g2,g3,g4,g5⟩:=h;refine⟨g1,s0,l++[{name:=p.aN,fields:=[]}],by simp only[g2];rfl,?_,g4,fun x hx=> ?_⟩
       ·simp only[List.length_append,List.length_singleton]
        have:¬(200<=m.aH.length):=fun hq=>hd ⟨ho,hq⟩;rw[g2] at this;simp at this;omega
       ·rcases List.mem_append.1 hx with hx|hx
        ·exact g5 x hx
        ·rw[List.mem_singleton.1 hx]
         refine⟨o1,fun e=> ?_,⟨Nat.zero_le _,fun _ h=>by cases h⟩⟩;have e:p.aN=x6:=e;have:=(k2 e).2.2;unfold count at ho;rw[g2,e,jd0 g4 g5] at ho;simp at ho;omega
      ·exact h
     have Lr:p.aP<=(((grown m p).filter fun s=>bJ s.name p.aN).length:Int):=by
      unfold grown;split
      ·rename_i ho
       rw[List.filter_append,List.length_append,ho];unfold count;rw[List.filter_cons_of_pos (p:=fun s:Seg=>bJ s.name p.aN) (eqT_self _)];simp
      ·rename_i ho
       unfold count at ho hc;omega
     obtain⟨j,s,h3,h4,h5⟩:=jee o2 Lr;rw[h3];exact hg.put (p:=p) (v:=v) m1 m2 h4 h5 (by omega) (by omega) (by omega) (by omega)
theorem pK{β:Type}{none:β}{l:List β}{n:Int}(h:nth none l n≠none):1<=n/\n<=l.length/\nth none l n∈l:=by
 unfold nth at h⊢;split at h
 ·exact absurd rfl h
 ·rename_i hn
  rw[if_neg hn]
  have hlt:n.toNat-1<l.length:=by
   refine Nat.lt_of_not_le fun hq=>h ?_;rw[List.getD_eq_getElem?_getD,List.getElem?_eq_none hq];rfl
  refine⟨by omega,by omega,?_⟩;rw[List.getD_eq_getElem?_getD,e_ hlt];exact List.getElem_mem hlt
theorem jds{β:Type}(none:β)(n:Int):nth none [] n=none:=by
 unfold nth;split<;>simp
theorem jeC{m:dQ}{p:Path}{j:Nat}{s:Seg}(hj:at0 m.aH p.aN p.aP=j)(hs:m.aH[j]? =some s)(hf:jcU s.fields)(h:(get m p).data.toList.isEmpty=false):p.aR<=100/\p.rep<=50/\p.comp<=50/\p.sub<=50:=by
 have h0:get m p≠ByteArray.empty:=fun e=>by rw[e] at h;cases h
 unfold get at h0;simp only at h0;split at h0
 ·rw[hj,Int.toNat_natCast,hs] at h0
  simp only at h0;obtain⟨-,d2,-⟩:=pK h0;have e3:nth [] (nth [] (nth [] s.fields p.aR) p.rep) p.comp≠[]:=fun e=>by rw[e,jds] at h0;exact h0 rfl
  obtain⟨-,c2,c3⟩:=pK e3;have e2:nth [] (nth [] s.fields p.aR) p.rep≠[]:=fun e=>by rw[e,jds] at e3;exact e3 rfl
  obtain⟨-,b2,b3⟩:=pK e2;have e1:nth [] s.fields p.aR≠[]:=fun e=>by rw[e,jds] at e2;exact e2 rfl
  obtain⟨-,a2,a3⟩:=pK e1;have f1:=hf.2 _ a3;have f2:=f1.2 _ b3;have f3:_<=50:=f2.2 _ c3;have:=hf.1;have:=f1.1;have:=f2.1;exact⟨by omega,by omega,by omega,by omega⟩
 ·exact absurd rfl h0
theorem Valid.del{m:dQ}(h:Valid m){p:Path}(he:asked m p true=0):Valid (qR m p):=by
 obtain hm:=jdP he;obtain⟨k1,k2,k3⟩:=jdr hm;unfold qR;simp only;apply Valid.canon;rcases jdq p.aN m.aH p.aP 0 with hq|⟨j,s,h3,h4,h5⟩
 ·rw[if_pos (show at0 m.aH p.aN p.aP<0 by unfold at0;rw[hq];decide)]
  exact h
 ·have h3:at0 m.aH p.aN p.aP=j:=by unfold at0;rw[h3];omega
  rw[if_neg (show¬at0 m.aH p.aN p.aP<0 by rw[h3];omega),h3,Int.toNat_natCast];split
  ·rename_i hf
   obtain⟨g1,s0,l,g2,g3,g4,g5⟩:=h
   have hne:p.aN≠x6:=by
    rcases k3 with k3|k3
    ·omega
    ·exact k3.2
   cases j with
   |zero=>
    rw[g2] at h4;simp only[List.getElem?_cons_zero,Option.some.injEq] at h4;subst h4;exact absurd (h5.symm.trans g4.name) hne
   |succ j=>
    refine⟨g1,s0,l.eraseIdx j,by simp only[g2];rfl,t_ (List.length_eraseIdx_le _ _) g3,g4,fun x hx=>g5 x (List.mem_of_mem_eraseIdx hx)⟩
  ·rename_i hf
   split
   ·exact h
   ·rename_i hn
    have xR:jcU s.fields:=by
     obtain⟨g1,s0,l,g2,g3,g4,g5⟩:=h;rw[g2] at h4;rcases List.mem_cons.1 (m_ h4) with rfl|hx
     ·exact g4.fits
     ·exact(g5 s hx).fits
    obtain⟨f1,f2,f3,f4⟩:=jeC h3 h4 xR (by simpa using hn)
    have sT:0<p.aR:=by
     obtain⟨-,-,o3⟩:=jdm k1;omega
    exact h.put (p:=p) (v:=ByteArray.empty) hm sT h4 h5 f1 f2 f3 f4
end M
namespace M
def GoodE(e:Int):Prop:=e=2\/e=3\/e=11\/e=60
theorem jd9{d:Nat}{cls:Int}{x:Node}{ks:List Tree}(h:jP (d+1) cls (.mk x ks)=true):b7 x.op=cls/\right x=true/\x.n=ks.length/\∀(i:Nat) (k:Tree),ks[i]? =some k->jP d (wanted x i) k=true:=by
 unfold jP at h;simp only[Bool.and_eq_true,decide_eq_true_eq,List.all_eq_true] at h;refine⟨h.1.1.1,h.1.1.2,h.1.2,fun i k hk=> ?_⟩;have:=h.2 (k,i) (by rw[List.mem_zipIdx_iff_getElem?];exact hk);exact this
theorem gT{x:Node}(h:right x=true):cd x.op<=x.n:=by
 unfold right at h;simp only[Bool.and_eq_true,decide_eq_true_eq] at h;exact h.1.1.2
theorem kid_some{ks:List Tree}{i:Nat}(h:i<ks.length):ks[i]? =some (kid ks i):=by
 unfold kid;rw[List.getD_eq_getElem?_getD,e_ h];rfl
theorem jda{s:ByteArray}{e:Int}(h:short s= .error e):GoodE e:=by
 unfold short at h;split at h
 ·injection h with h;subst h;exact .inl rfl
 ·cases h
theorem jdt{s a b:ByteArray}{e:Int}(h:replace s a b= .error e):GoodE e:=by
 unfold replace at h;split at h
 ·split at h
  ·injection h with h;subst h;exact .inl rfl
  ·cases h
 ·split at h
  ·cases h
  ·injection h with h;subst h;exact .inl rfl
theorem jen{s:ByteArray}{n:Int}{b:ByteArray}{e:Int}(h:pad s n b= .error e):GoodE e:=by
 unfold pad at h;split at h
 ·split at h
  ·injection h with h;subst h;exact .inl rfl
  ·cases h
 ·split at h
  ·injection h with h;subst h;exact .inl rfl
  ·cases h
theorem jdn{r:Except Int ByteArray}{e:Int}(hr:∀e,r= .error e->GoodE e)(h:told r= .error e):GoodE e:=by
 cases r with
 |ok s=>cases h
 |error e'=>injection h with h;subst h;exact hr _ rfl
theorem jef{op:Int}{a b:Val}{e:Int}(h:gY op a b= .error e):GoodE e:=by
 unfold gY at h
 iterate 6 (first|(split at h;cases h)|skip)
 all_goals try cases h
 unfold plusV at h;split at h
 ·exact jda h
 ·split at h
  ·injection h with h;subst h;exact .inr (.inr (.inl rfl))
  ·cases h
theorem ite_er{α:Type}{p:Prop}[Decidable p]{v:α}{r:Except Int α}{e:Int}(h:(if p then .ok v else r)= .error e):r= .error e:=by
 by_cases hp:p
 ·rw[if_pos hp] at h;cases h
 ·rwa [if_neg hp] at h
theorem jd1{c:Cx}{m:dQ}{name:ByteArray}{first:Node}{a:List Val}{e:Int}(h:nV c m name first a= .error e):GoodE e:=by
 unfold nV at h;replace h:=ite_er (ite_er (ite_er (ite_er (ite_er (ite_er h)))));by_cases c:bJ name lS=true
 ·rw[if_pos c] at h;exact jdn (fun _ h=>jdt h) h
 rw[if_neg c] at h;clear c;by_cases c:bJ name Oa=true
 ·rw[if_pos c] at h;exact jdn (fun _ h=>jen h) h
 rw[if_neg c] at h;clear c;by_cases c:bJ name pG=true
 ·rw[if_pos c] at h
  replace h:=ite_er h;injection h with h;subst h;exact .inr (.inr (.inl rfl))
 rw[if_neg c] at h;clear c;replace h:=ite_er (ite_er (ite_er (ite_er (ite_er h))));cases h
theorem jdb{f:Tree->Except Int Val×Nat}:∀(l:List Tree),(∀t∈l,∀e k,f t=(.error e,k)->GoodE e)->∀(e:Int) (k:Nat),cz f l=(.error e,k)->GoodE e
 |[],_,e,k,h=>by unfold cz at h;injection h with h;cases h
 |t::l,hf,e,k,h=>by
  unfold cz at h;split at h
  ·rename_i e' k' hq
   injection h with h;injection h with h;subst h;exact hf t (by simp) _ _ hq
  ·split at h
   ·rename_i e' k' hq
    injection h with h;injection h with h;subst h;exact jdb l (fun t ht=>hf t (by simp[ht])) _ _ hq
   ·injection h with h;cases h
theorem jeD{op:Int}(h:b7 op=3):7<=op/\op<=23:=by
 unfold b7 at h;split at h
 ·cases h
 ·split at h
  ·cases h
  ·split at h
   ·assumption
   ·cases h
theorem evalE_good(c:Cx)(m:dQ)(scopes:List Scope):∀(d:Nat) (t:Tree),jP d 3 t=true->∀(e:Int) (k:Nat),aL c m scopes d t=(.error e,k)->GoodE e
 |0,t,ht,e,k,h=>by cases ht
 |d+1,.mk x ks,ht,e,k,h=>by
  obtain⟨hc,hr,hn,hk⟩:=jd9 ht;have h3:=jeD hc;have hl:=gT hr
  have hw:∀i,wanted x i=3:=fun i=>by
   unfold wanted;rw[if_neg (by omega),if_neg (by omega)]
  have ih:=evalE_good c m scopes d;unfold aL at h;by_cases h7:x.op=7
  ·rw[if_pos h7] at h;injection h with h;cases h
  rw[if_neg h7] at h;by_cases h8:x.op=8
  ·rw[if_pos h8] at h;injection h with h;cases h
  rw[if_neg h8] at h;by_cases h9:x.op=9\/x.op=10
  ·rw[if_pos h9] at h;injection h with h;cases h
  rw[if_neg h9] at h;by_cases h11:x.op=11
  ·rw[if_pos h11] at h;injection h with h h';exact jda h
  rw[if_neg h11] at h;by_cases h12:x.op=12
  ·rw[if_pos h12] at h;injection h with h;cases h
  rw[if_neg h12] at h;by_cases h23:x.op=23
  ·rw[if_pos h23] at h
   split at h
   ·rename_i e' k' hq
    injection h with h;injection h with h;subst h;refine jdb _ (fun t ht e k he=>ih t ?_ e k he) _ _ hq
    have hm:t∈ks:=by
     split at ht
     ·exact List.mem_of_mem_tail ht
     ·exact ht
    obtain⟨i,hi⟩:=List.getElem?_of_mem hm;have:=hk i t hi
    rwa [hw] at this
   ·injection h with h;exact jd1 h
  rw[if_neg h23] at h
  have hl2:(1:Int)<=cd x.op/\(x.op≠22->2<=cd x.op):=by
   unfold cd lQ;rw[if_neg (by omega)];by_cases h22:x.op=22
   ·rw[if_pos (by omega)];exact⟨by omega,fun h=>absurd h22 h⟩
   ·rw[if_neg (by omega),if_pos (by simp;omega)];exact⟨by omega,fun _=>by omega⟩
  have k0:=hk 0 (kid ks 0) (kid_some (by omega));rw[hw] at k0;split at h
  ·rename_i e' k' hq
   injection h with h;injection h with h;subst h;exact ih _ k0 _ _ hq
  ·split at h
   ·injection h with h;cases h
   ·rename_i h22
    have k1:=hk 1 (kid ks 1) (kid_some (by have:=hl2.2 h22;omega));rw[hw] at k1;split at h
    ·injection h with h;cases h
    ·split at h
     ·rename_i e' k' hq
      injection h with h;injection h with h;subst h;exact ih _ k1 _ _ hq
     ·injection h with h
      split at h
      ·cases h
      ·exact jef h
theorem jdc{f:List (ByteArray×Int)->Tree->Except Int (List (ByteArray×Int))}:∀(l:List Tree) (env cS:List (ByteArray×Int)),gH f env l= .ok cS->∀t∈l,∃e e',f e t= .ok e'
 |[],env,cS,h,t,ht=>by cases ht
 |t::l,env,cS,h,u,hu=>by
  unfold gH at h;split at h
  ·cases h
  ·rename_i e1 hq
   rcases List.mem_cons.1 hu with rfl|hu
   ·exact⟨env,e1,hq⟩
   ·exact jdc l _ _ h u hu
theorem jdo{t:Tree}{x:Node}:∀{l:List Tree},t∈l->x∈flat t->x∈bB l
 |[],h,_=>by cases h
 |u::l,h,hx=>by
  unfold bB;rcases List.mem_cons.1 h with rfl|h
  ·exact List.mem_append_left _ hx
  ·exact List.mem_append_right _ (jdo h hx)
theorem jdd{f g:List (ByteArray×Int)->Tree->Except Int (List (ByteArray×Int))}:∀(l:List Tree) (env cS:List (ByteArray×Int)),(∀t∈l,∀e e',f e t= .ok e'->g e t= .ok e')->gH f env l= .ok cS->gH g env l= .ok cS
 |[],env,cS,_,h=>h
 |t::l,env,cS,hfg,h=>by
  unfold gH at h⊢;split at h
  ·cases h
  ·rename_i e1 hq
   rw[hfg t (by simp) _ _ hq];exact jdd l _ _ (fun t ht=>hfg t (by simp[ht])) h
theorem jc4{dests jdu tn:List ByteArray}:∀(d:Nat) (env cS:List (ByteArray×Int)) (t:Tree),(∀x∈flat t,x.op=5->fo jdu x.text=true)->bh dests tn d env t= .ok cS->bh jdu tn d env t= .ok cS
 |0,env,cS,t,_,h=>by unfold bh at h;cases h
 |d+1,env,cS,.mk x ks,hx,h=>by
  have om:∀t∈ks,∀y∈flat t,y.op=5->fo jdu y.text=true:=fun t ht y hy h5=>hx y (by unfold flat;exact List.mem_cons_of_mem _ (jdo ht hy)) h5
  have ih:∀l:List Tree,(∀t∈l,t∈ks)->∀env cS,gH (bh dests tn d) env l= .ok cS->gH (bh jdu tn d) env l= .ok cS:=fun l hl env cS h=>
   jdd l _ _ (fun t ht e e' he=>jc4 d e e' t (om t (hl t ht)) he) h
  unfold bh at h⊢;by_cases h0:x.op=0
  ·rw[if_pos h0] at h⊢
   split at h
   ·cases h
   ·rename_i e1 hq
    rw[ih ks (fun _ h=>h) _ _ hq];exact h
  rw[if_neg h0] at h⊢;by_cases h1:x.op=1
  ·rw[if_pos h1] at h⊢
   split at h
   ·cases h
   ·rename_i k hq
    split at h
    ·rename_i h3
     rw[if_pos h3];exact ih ks.tail (fun t ht=>List.mem_of_mem_tail ht) _ _ h
    ·cases h
  rw[if_neg h1] at h⊢;by_cases h2:x.op=2
  ·rw[if_pos h2] at h⊢;exact h
  rw[if_neg h2] at h⊢;by_cases h4:x.op=4
  ·rw[if_pos h4] at h⊢;exact h
  rw[if_neg h4] at h⊢;by_cases h5:x.op=5
  ·rw[if_pos h5] at h⊢
   rw[if_pos (hx x (by unfold flat;simp) h5)];split at h
   ·exact h
   ·cases h
  rw[if_neg h5] at h⊢;exact h
structure jdj(dests:List ByteArray)(s:St):Prop where
 valid:Valid s.m
 same:canon s.m=s.m
 told:∀r∈s.routes,fo dests r=true
 once:s.routes.Pairwise fun a b=>bJ a b=false
theorem jdj.scopes{dests:List ByteArray}{s:St}(h:jdj dests s)(sc:List Scope):jdj dests {s with scopes:=sc}:=⟨h.1,h.2,h.3,h.4⟩
def Ends(dests:List ByteArray)(r:Except Int St×Nat):Prop:=(∀e k,r=(.error e,k)->GoodE e)/\∀s k,r=(.ok s,k)->jdj dests s
theorem Ends.err{dests:List ByteArray}{e:Int}{k:Nat}(h:GoodE e):Ends dests (.error e,k):=
 ⟨fun e' k' h'=>by
  injection h' with h';injection h' with h';subst h';exact h,fun s' k' h'=>by
  injection h' with h';cases h'⟩
theorem Ends.ok{dests:List ByteArray}{s:St}{k:Nat}(h:jdj dests s):Ends dests (.ok s,k):=
 ⟨fun e' k' h'=>by
  injection h' with h';exact absurd h' (by simp),fun s' k' h'=>by
  injection h' with h';injection h' with h';subst h';exact h⟩
theorem Ends.steps{dests:List ByteArray}{r:Except Int St}{k k':Nat}(h:Ends dests (r,k)):Ends dests (r,k'):=by
 cases r with
 |error e=>exact .err (h.1 _ _ rfl)
 |ok s=>exact .ok (h.2 _ _ rfl)
theorem jde{dests:List ByteArray}{f:St->Tree->Except Int St×Nat}:∀(l:List Tree) (s:St),(∀t∈l,∀s,jdj dests s->Ends dests (f s t))->jdj dests s->Ends dests (bA f s l)
 |[],s,_,hs=>by unfold bA;exact .ok hs
 |t::l,s,hf,hs=>by
  have ih:=fun s hs=>jde (dests:=dests) (f:=f) l s (fun t ht=>hf t (by simp[ht])) hs;have ht:=hf t (by simp) s hs;unfold bA;split
  ·exact ih s hs
  ·split
   ·rename_i e k hq;exact .err (ht.1 _ _ hq)
   ·rename_i s' k hq
    have:=ih s' (ht.2 _ _ hq);split;rename_i r j hj;rw[hj] at this;exact this.steps
theorem jer{op:Int}{cls:Int}(h:b7 op=cls)(hc:cls=1\/cls=2):0<=op/\op<=6:=by
 unfold b7 at h;split at h
 ·omega
 ·split at h
  ·omega
  ·split at h<;>omega
theorem jdf{m:dQ}{p:Path}{b:Bool}(hv:Valid m)(h:asked m p b≠0):GoodE (asked m p b):=by
 unfold asked at h⊢;rw[if_neg (by rw[(jc1 m).2 hv];decide)] at h⊢;split
 ·exact .inr (.inr (.inr rfl))
 ·rename_i hq;rw[if_neg hq] at h;exact absurd rfl h
theorem jeg{m:dQ}{p:Path}(hv:Valid m)(h:lx m p≠0):GoodE (lx m p):=by
 unfold lx at h⊢;simp only at h⊢;split
 ·rename_i hq;exact jdf hv hq
 ·split
  ·exact .inl rfl
  ·split
   ·exact .inr (.inl rfl)
   ·split
    ·exact .inl rfl
    ·rename_i h1 h2 h3 h4
     rw[if_neg h1,if_neg h2,if_neg h3,if_neg h4] at h;exact absurd rfl h
theorem jeh{x:Node}{i:Nat}(h:x.op=1):wanted x i=if 0<i then 1 else 3:=by
 unfold wanted;rw[if_neg (by omega)];by_cases hi:0<i
 ·rw[if_pos ⟨h,hi⟩,if_pos hi]
 ·rw[if_neg (by omega),if_neg hi]
theorem jd2{l:List ByteArray}{x:ByteArray}(h:¬fo l x=true):∀r∈l,bJ x r=false:=by
 intro r hr;unfold fo at h;simp only[List.any_eq_true,not_exists,not_and,Bool.not_eq_true] at h;exact h r hr
theorem jdQ(a b:ByteArray):bJ a b=bJ b a:=by
 unfold bJ;exact Bool.beq_comm
theorem jdg(c:Cx)(dests tn:List ByteArray):∀(d:Nat) (cls:Int) (t:Tree) (s:St),(cls=1\/cls=2)->jP d cls t=true->(∃e e',bh dests tn d e t= .ok e')->jdj dests s->Ends dests (aQ c d s t)
 |0,cls,t,s,hc,ht,hl,hs=>by cases ht
 |d+1,cls,.mk x ks,s,hc,ht,hl,hs=>by
  obtain⟨lH,hr,hn,hk⟩:=jd9 ht;have hop:=jer lH hc;have hl0:=gT hr;have ih:=jdg c dests tn d
  have k0:(1:Int)<=cd x.op->x.op≠0->jP d 3 (kid ks 0)=true:=fun h1 h0=>by
   have:=hk 0 (kid ks 0) (kid_some (by omega));unfold wanted at this
   rwa [if_neg h0,if_neg (by omega)] at this
  obtain⟨e,e',hl⟩:=hl;unfold bh at hl;unfold aQ;by_cases h0:x.op=0
  ·rw[if_pos h0] at hl⊢
   have hw:∀i,wanted x i=2:=fun i=>by unfold wanted;rw[if_pos h0]
   split at hl
   ·cases hl
   ·rename_i e1 hq
    have:=jde ks {s with scopes:=s.scopes++[fun _=>none]} (fun t htm s' hs'=>by
     obtain⟨i,hi⟩:=List.getElem?_of_mem htm;have Jt:=hk i t hi;rw[hw] at Jt;exact ih 2 t s' (.inr rfl) Jt (jdc ks _ _ hq t htm) hs') (hs.scopes _)
    split
    ·rename_i e k hj;exact .err (this.1 _ _ hj)
    ·rename_i s' k hj;exact .ok ((this.2 _ _ hj).scopes _)
  rw[if_neg h0] at hl⊢;by_cases h1:x.op=1
  ·rw[if_pos h1] at hl⊢
   have dF:cd x.op=2:=by unfold cd;rw[if_pos h1]
   have ht0:=k0 (by omega) h0;split at hl
   ·cases hl
   ·rename_i kk hq
    split at hl
    ·have jq:∀i,0<i->i<ks.length->jP d 1 (kid ks i)=true/\∃e e',bh dests tn d e (kid ks i)= .ok e':=fun i hi Jt=>by
      have h2:=hk i (kid ks i) (kid_some Jt);rw[jeh h1,if_pos hi] at h2;refine⟨h2,jdc ks.tail _ _ hl _ ?_⟩;obtain⟨j,rfl⟩:∃j,i=j+1:=⟨i-1,by omega⟩
      refine m_ (i:=j) ?_;rw[List.getElem?_tail];exact kid_some Jt
     split
     ·rename_i e k hj;exact .err (evalE_good c s.m s.scopes d _ ht0 _ _ hj)
     ·rename_i v k hj
      split
      ·obtain⟨a1,a2⟩:=jq 1 (by omega) (by omega)
       have:=ih 1 _ s (.inl rfl) a1 a2 hs;split;rename_i r j hj;rw[hj] at this;exact this.steps
      ·split
       ·rename_i h2
        obtain⟨a1,a2⟩:=jq 2 (by omega) h2;have:=ih 1 _ s (.inl rfl) a1 a2 hs;split;rename_i r j hj;rw[hj] at this;exact this.steps
       ·exact .ok hs
    ·cases hl
  rw[if_neg h1] at hl⊢;by_cases h2:x.op=2
  ·rw[if_pos h2]
   have ht0:=k0 (by unfold cd;rw[if_neg h1,if_pos (by omega)];omega) h0;split
   ·rename_i e k hj;exact .err (evalE_good c s.m s.scopes d _ ht0 _ _ hj)
   ·rename_i v k hj
    split
    ·rename_i hne;exact .err (jeg hs.valid hne)
    ·rename_i hne
     exact .ok ⟨hs.valid.set (by simpa using hne),jcV _,hs.told,hs.once⟩
  rw[if_neg h2] at hl⊢;by_cases h3:x.op=3
  ·rw[if_pos h3]
   split
   ·rename_i hne;exact .err (jdf hs.valid hne)
   ·rename_i hne
    exact .ok ⟨hs.valid.del (by simpa using hne),jcV _,hs.told,hs.once⟩
  rw[if_neg h3];by_cases h4:x.op=4
  ·rw[if_pos h4]
   have ht0:=k0 (by unfold cd;rw[if_neg h1,if_pos (by omega)];omega) h0;split
   ·rename_i e k hj;exact .err (evalE_good c s.m s.scopes d _ ht0 _ _ hj)
   ·exact .ok (hs.scopes _)
  rw[if_neg h4] at hl⊢;by_cases h5:x.op=5
  ·rw[if_pos h5] at hl⊢
   split at hl
   ·rename_i hd
    refine .ok ⟨hs.valid,hs.same,?_,?_⟩
    ·show∀r∈(if fo s.routes x.text=true then s.routes else s.routes++[x.text]),_
     split
     ·exact hs.told
     ·intro r hr
      rcases List.mem_append.1 hr with hr|hr
      ·exact hs.told r hr
      ·rw[List.mem_singleton.1 hr];exact hd
    ·show List.Pairwise _ (if fo s.routes x.text=true then s.routes else s.routes++[x.text])
     split
     ·exact hs.once
     ·rename_i hno
      rw[List.pairwise_append];refine⟨hs.once,List.pairwise_singleton _ _,fun a ha b hb=> ?_⟩;rw[List.mem_singleton.1 hb];rw[jdQ];exact jd2 hno a ha
   ·cases hl
  rw[if_neg h5];exact .ok ⟨hs.valid,hs.same,hs.told,hs.once⟩
end M
namespace M
theorem jdv{n:List Node}{dests:List ByteArray}{tables:List Table}{m:dQ}(hv:valid m=true)(hp:Passes n dests (aG tables)):qw n m tables:=by
 obtain⟨h1,env,h2⟩:=hp;refine⟨hv,h1,env,jc4 20 [] env _ (fun x hx h5=> ?_) h2⟩;have hn:=(yV h1).1;unfold fo;rw[List.any_eq_true];refine⟨x.text,?_,eqT_self _⟩;unfold bV;refine List.mem_map.2 ⟨x,List.mem_filter.2 ⟨?_,by simp[h5]⟩,rfl⟩;rw[hn];exact hx
theorem jd3{m:dQ}(h:valid m=true)(dests:List ByteArray):jdj dests ⟨canon m,[],false,[]⟩:=
 ⟨((jc1 m).1 h).canon,jcV m,(fun _ h=>by cases h),List.Pairwise.nil⟩
theorem jdR{n:List Node}{dests:List ByteArray}{tables:List Table}{m:dQ}(now:ByteArray)(F:Nat)(hv:valid m=true)(hp:Passes n dests (aG tables)):
 (∀e u,pd n m tables now F=(.error e,u)->e=83\/GoodE e)/\∀s u,pd n m tables now F=(.ok s,u)->jdj dests s:=by
 obtain⟨h1,env,h2⟩:=hp;obtain⟨-,-,h4,-⟩:=yV h1;have h:=jdg ⟨tables,now⟩ dests (aG tables) 20 1 (iY n) ⟨canon m,[],false,[]⟩ (.inl rfl) h4 ⟨_,_,h2⟩ (jd3 hv dests);unfold pd;generalize aQ ⟨tables,now⟩ 20 ⟨canon m,[],false,[]⟩ (iY n)=r at h;by_cases hq:0+r.2<=F
 ·rw[bZ hq]
  refine⟨fun e u he=> ?_,fun s u he=> ?_⟩
  ·injection he with he hu
   exact .inr (h.1 e r.2 (by rw[<-he]))
  ·injection he with he hu
   exact h.2 s r.2 (by rw[<-he])
 ·rw[eQ hq]
  refine⟨fun e u he=> ?_,fun s u he=> ?_⟩
  ·injection he with he hu
   injection he with he;exact .inl he.symm
  ·injection he with he hu
   cases he
end M
section
open Go Go.RowKit Go.BigFrame
theorem jdw:Enters Tryz.prog 33:=fun _ _=>rfl
theorem jdx:Enters Tryz.prog 35:=fun _ _=>rfl
theorem jdy:Enters Tryz.prog 37:=fun _ _=>rfl
theorem jdz:Enters Tryz.prog 40:=fun _ _=>rfl
theorem jdh(u1 u2:Value)(l:List ByteArray)(S1 S2:Nat->Prop)(w:World)(h1:cJ.R w S1 [u1] l)(h2:cJ.R w S2 [u2] l)(hS1:∀b,S1 b->b<w.heap.size)(Jg:∀b,S2 b->b<w.heap.size):
 Calls Tryz.prog 34 #[u1,u2] w fun e w'=>e= .returned (.bool true)/\Below w.heap.size w w':=by
 obtain⟨A1,c1,rfl,ee,dF⟩:=aU.av h1;obtain⟨A2,c2,rfl,oJ,hl2⟩:=aU.av h2;have hm:=ee.le;have H1:=q_ dF;have H2:=q_ hl2;have qL:=q_ hS1;have qK:=q_ Jg;have t0:=gI l.length;generalize l.length=m at*;clear h1 h2 ee oJ dF hl2 hS1 Jg;go_enter Tryz.func34,Tryz.ntmps34;go_wp2_with fail;go_loopw [13] (fun x wr=>∃k:Nat,k<=m/\x= .int .i64 k/\Below w.heap.size w wr) (fun x _=>m-(intOf x).toNat)
 case atStart=>exact⟨0,by omega,rfl,Below.refl _ _⟩
 case round=>
  obtain⟨k,hk,rfl,bS⟩:=hrel;have HB:=q_ bS;clear bS;by_cases hlt:k<m
  ·have q1:decide ((k:Int)<(m:Int))=true:=by simp;omega
   obtain⟨a1,s1,v1,rfl,hb1,hx1,hr1,hc1⟩:=(H1.o.below HB.o qL.o).in1 rfl hlt;obtain⟨a2,s2,v2,rfl,hb2,hx2,hr2,hc2⟩:=(H2.o.below HB.o qK.o).in1 rfl hlt;obtain rfl:s1=s2:=i_ (hx1.symm.trans hx2);obtain⟨rfl,-⟩:=bN.inv hr1;obtain⟨rfl,-⟩:=bN.inv hr2;have q2:(s1.toList==s1.toList)=true:=by simp
   clear hx1 hx2 hr1 hr2;go_wp2_with fail
   go_quiet (fail)
   go_wp2;go_roundw
   case rel=>exact⟨k+1,by omega,by go_num,below_drewN HB.o _⟩
   case measure=>simp[intOf];omega
  ·have q1:decide ((k:Int)<(m:Int))=false:=by simp;omega
   go_wp2;go_ret;exact⟨rfl,HB.o⟩
def jei(fi:FuncId)(ci:Array Value)(E:aU α)(S1 S2:Nat->Prop)(w:World):Prop:=∀W a b x,Below w.heap.size w W->E.R W S1 [a] x->E.R W S2 [b] x->Calls Tryz.prog fi (#[a,b]++ci) W fun e w'=>e= .returned (.bool true)/\Below W.heap.size W w'
def jeH(LY:Nat):Prop:=LY=36\/LY=38\/LY=41
theorem jdA{LY:Nat}(hI:jeH LY)(E:aU (List α))(hE:E.n=1)(kZ:∀W S u y,E.R W S [u] y->∃A n c,u= .slice A n c)(fi:FuncId)(ci:Array Value)(eU:Enters Tryz.prog fi)(u1 u2:Value)(l:List (List α))(S1 S2:Nat->Prop)(w:World)(h1:E.list.R w S1 [u1] l)(h2:E.list.R w S2 [u2] l)(hS1:∀b,S1 b->b<w.heap.size)(Jg:∀b,S2 b->b<w.heap.size)(hc:jei fi ci E S1 S2 w):
 Calls Tryz.prog LY #[u1,u2,.func (.func fi) #[] ci] w fun e w'=>e= .returned (.bool true)/\Below w.heap.size w w':=by
 obtain⟨A1,c1,rfl,ee,dF⟩:=aU.av h1;obtain⟨A2,c2,rfl,oJ,hl2⟩:=aU.av h2;have hm:=ee.le;have H1:=q_ dF;have H2:=q_ hl2;have qL:=q_ hS1;have qK:=q_ Jg;have HC:=q_ hc;have SH:=q_ kZ;have Q1:=q_ hE;have GI:=q_ eU;have t0:=gI l.length;have gi:=fun args w=>eU args w;generalize l.length=m at*;clear h1 h2 ee oJ dF hl2 hS1 Jg hc kZ hE eU;rcases hI with rfl|rfl|rfl
 all_goals
  first|go_enter Tryz.func36,Tryz.ntmps36|go_enter Tryz.func38,Tryz.ntmps38|go_enter Tryz.func41,Tryz.ntmps41
  go_wp2_with fail;go_loopw [17] (fun x wr=>∃k:Nat,k<=m/\x= .int .i64 k/\Below w.heap.size w wr) (fun x _=>m-(intOf x).toNat)
  case atStart=>exact⟨0,by omega,rfl,Below.refl _ _⟩
  case round=>
   obtain⟨k,hk,rfl,bS⟩:=hrel;have HB:=q_ bS;have gi:=GI.o;unfold Enters at gi;clear bS;by_cases hlt:k<m
   ·have q1:decide ((k:Int)<(m:Int))=true:=by simp;omega
    obtain⟨a1,s1,v1,rfl,hb1,hx1,hr1,hc1⟩:=(H1.o.below HB.o qL.o).in1 Q1.o hlt;obtain⟨a2,s2,v2,rfl,hb2,hx2,hr2,hc2⟩:=(H2.o.below HB.o qK.o).in1 Q1.o hlt;obtain rfl:s1=s2:=i_ (hx1.symm.trans hx2);have C:=q_ (HC.o wr v1 v2 s1 HB.o hr1 hr2);obtain⟨A3,n3,c3,rfl⟩:=SH.o _ _ _ _ hr1;obtain⟨A4,n4,c4,rfl⟩:=SH.o _ _ _ _ hr2;clear hx1 hx2 hr1 hr2;go_wp2_with fail;refine C.o.mono ?_;rintro e w2 ⟨rfl,hb⟩;have B2:=q_ (HB.o.trans (hb.mono HB.o.size));clear hb;go_wp2;go_roundw
    case rel=>exact⟨k+1,by omega,by go_num,B2.o⟩
    case measure=>simp[intOf];omega
   ·have q1:decide ((k:Int)<(m:Int))=false:=by simp;omega
    go_wp2;go_ret;exact⟨rfl,HB.o⟩
theorem jeI(S1 S2:Nat->Prop)(w:World)(hS1:∀b,S1 b->b<w.heap.size)(Jg:∀b,S2 b->b<w.heap.size):jei 33 #[] cJ S1 S2 w:=by
 intro W a b x hW h1 h2;have K:=q_ (jdh a b x S1 S2 W h1 h2 (fun b h=>l_ (hS1 b h) hW.size) (fun b h=>l_ (Jg b h) hW.size));obtain⟨A3,n3,c3,rfl⟩:=bF h1;obtain⟨A4,n4,c4,rfl⟩:=bF h2;clear h1 h2 hW hS1 Jg;go_enter Tryz.func33,Tryz.ntmps33;go_wp2_with fail;refine K.o.mono ?_;rintro e w2 ⟨rfl,hb⟩;go_wp2;go_ret;exact⟨rfl,hb⟩
theorem jeJ(g:Nat)(S1 S2:Nat->Prop)(w:World)(hS1:∀b,S1 b->b<w.heap.size)(Jg:∀b,S2 b->b<w.heap.size)(hg:g<w.heap.size)(hcell:w.cell? ⟨g,0,none⟩=some (.func (.func 33) #[] #[])):jei 35 #[.pointer (some ⟨g,0,none⟩)] jQ S1 S2 w:=by
 intro W a b x hW h1 h2;have hcW:=(hW.cell (p:=⟨g,0,none⟩) hg).trans hcell;have K:=q_ (jdA (.inl rfl) cJ rfl (fun _ _ _ _ h=>bF h) 33 #[] jdw a b x S1 S2 W h1 h2 (fun b h=>l_ (hS1 b h) hW.size) (fun b h=>l_ (Jg b h) hW.size) (fun W2 a b x h=>jeI S1 S2 w hS1 Jg W2 a b x (hW.trans (h.mono hW.size))));obtain⟨A3,n3,c3,rfl⟩:=bF h1;obtain⟨A4,n4,c4,rfl⟩:=bF h2;clear h1 h2 hW hS1 Jg hg hcell;go_enter Tryz.func35,Tryz.ntmps35;go_wp2_with fail;refine K.o.mono ?_;rintro e w2 ⟨rfl,hb⟩;go_wp2;go_ret;exact⟨rfl,hb⟩
theorem jeK(g:Nat)(ci:Array Value)(S1 S2:Nat->Prop)(w:World)(hS1:∀b,S1 b->b<w.heap.size)(Jg:∀b,S2 b->b<w.heap.size)(hg:g<w.heap.size)(hcell:w.cell? ⟨g,0,none⟩=some (.func (.func 35) #[] ci))(hy:jei 35 ci jQ S1 S2 w):jei 37 #[.pointer (some ⟨g,0,none⟩)] cG S1 S2 w:=by
 intro W a b x hW h1 h2;have hcW:=(hW.cell (p:=⟨g,0,none⟩) hg).trans hcell;have K:=q_ (jdA (.inr (.inl rfl)) jQ rfl (fun _ _ _ _ h=>bF h) 35 ci jdx a b x S1 S2 W h1 h2 (fun b h=>l_ (hS1 b h) hW.size) (fun b h=>l_ (Jg b h) hW.size) (fun W2 a b x h=>hy W2 a b x (hW.trans (h.mono hW.size))));obtain⟨A3,n3,c3,rfl⟩:=bF h1;obtain⟨A4,n4,c4,rfl⟩:=bF h2;clear h1 h2 hW hS1 Jg hg hcell;go_enter Tryz.func37,Tryz.ntmps37;go_wp2_with fail;refine K.o.mono ?_;rintro e w2 ⟨rfl,hb⟩;go_wp2;go_ret;exact⟨rfl,hb⟩
def jeG(g:Nat)(S1 S2:Nat->Prop)(w:World):Prop:=∀(W:World) (x:M.Seg) (A1 A2:Option Addr) (c1 c2:Nat),Below w.heap.size w W->dR.R W S1 [.slice A1 x.fields.length c1] x.fields->dR.R W S2 [.slice A2 x.fields.length c2] x.fields->
 Calls Tryz.prog 40 #[.agg #[.string x.name,.slice A1 x.fields.length c1],.agg #[.string x.name,.slice A2 x.fields.length c2],.pointer (some ⟨g,0,none⟩)] W fun e w'=>e= .returned (.bool true)/\Below W.heap.size W w'
theorem jeE(g:Nat)(ci:Array Value)(S1 S2:Nat->Prop)(w:World)(hS1:∀b,S1 b->b<w.heap.size)(Jg:∀b,S2 b->b<w.heap.size)(hg:g<w.heap.size)(hcell:w.cell? ⟨g,0,none⟩=some (.func (.func 37) #[] ci))(hy:jei 37 ci cG S1 S2 w):jeG g S1 S2 w:=by
 intro W x A1 A2 c1 c2 hW h1 h2;obtain⟨w2,hw2⟩:∃w2,w2=(W.alloc (.cells #[.string x.name,.slice A1 x.fields.length c1] 48)).alloc (.cells #[.string x.name,.slice A2 x.fields.length c2] 48):=⟨_,rfl⟩
 have B2:=q_ (show Below W.heap.size W w2 from hw2▸((Below.refl _ W).alloc (n_) _).alloc (by simp) _);have e1:=(show ar w2 W.heap.size 48 #[.string x.name,.slice A1 x.fields.length c1] from hw2▸(ar.new W _ _).alloc _).cell
 have e2:=(show ar w2 (W.heap.size+1) 48 #[.string x.name,.slice A2 x.fields.length c2] by
  have:=ar.new (W.alloc (.cells #[.string x.name,.slice A1 x.fields.length c1] 48)) 48 #[.string x.name,.slice A2 x.fields.length c2];rw[hw2];simpa using this).cell
 have hcW:=((hW.trans (B2.o.mono hW.size)).cell (p:=⟨g,0,none⟩) hg).trans hcell
 have K:=q_ (jdA (.inr (.inr rfl)) cG rfl (fun _ _ _ _ h=>bF h) 37 ci jdy (.slice A1 x.fields.length c1) (.slice A2 x.fields.length c2) x.fields S1 S2 w2 (aU.below h1 B2.o (fun b h=>l_ (hS1 b h) hW.size)) (aU.below h2 B2.o (fun b h=>l_ (Jg b h) hW.size))
  (fun b h=>l_ (hS1 b h) (t_ hW.size B2.o.size)) (fun b h=>l_ (Jg b h) (t_ hW.size B2.o.size)) (fun W2 a b x h=>hy W2 a b x ((hW.trans (B2.o.mono hW.size)).trans (h.mono (t_ hW.size B2.o.size)))))
 have q0:(x.name.toList==x.name.toList)=true:=by simp
 have HW:=q_ hw2;rw[hw2] at hcW;clear e1 e2;clear h1 h2 hS1 Jg hg hcell hy hW hw2;generalize x.fields.length=m at*;go_enter Tryz.func40,Tryz.ntmps40;go_wp2_with fail;rw[<-HW.o];clear HW;refine K.o.mono ?_;rintro e w3 ⟨rfl,hb⟩;have B3:=q_ (B2.o.trans (hb.mono B2.o.size));clear hb;go_wp2;go_ret;exact⟨rfl,B3.o⟩
theorem jes(g:Nat)(A1 A2:Option Addr)(c1 c2:Nat)(l:List M.Seg)(S1 S2:Nat->Prop)(w:World)(ee:bX A1 l.length c1)(oJ:bX A2 l.length c2)(dF:bn aX w S1 A1 l.length l)(hl2:bn aX w S2 A2 l.length l)(hS1:∀b,S1 b->b<w.heap.size)(Jg:∀b,S2 b->b<w.heap.size)(hy:jeG g S1 S2 w):
 Calls Tryz.prog 39 #[.slice A1 l.length c1,.slice A2 l.length c2,.func (.func 40) #[] #[.pointer (some ⟨g,0,none⟩)]] w fun e w'=>e= .returned (.bool true)/\Below w.heap.size w w':=by
 have hm:=ee.le;have H1:=q_ dF;have H2:=q_ hl2;have qL:=q_ hS1;have qK:=q_ Jg;have HY:=q_ hy;have t0:=gI l.length;have gi:=fun args w=>jdz args w;have GI:=q_ gi;generalize l.length=m at*;clear ee oJ dF hl2 hS1 Jg hy;go_enter Tryz.func39,Tryz.ntmps39;go_wp2_with fail;go_loopw [17] (fun x wr=>∃k:Nat,k<=m/\x= .int .i64 k/\Below w.heap.size w wr) (fun x _=>m-(intOf x).toNat)
 case atStart=>exact⟨0,by omega,rfl,Below.refl _ _⟩
 case round=>
  obtain⟨k,hk,rfl,bS⟩:=hrel;have HB:=q_ bS;have gi:=GI.o;clear bS;by_cases hlt:k<m
  ·have q1:decide ((k:Int)<(m:Int))=true:=by simp;omega
   obtain⟨a1,s1,u1,v1,rfl,hb1,hx1,hr1,hc1,jf⟩:=(H1.o.below HB.o qL.o).in2 rfl hlt;obtain⟨a2,s2,u2,v2,rfl,hb2,hx2,hr2,hc2,nU⟩:=(H2.o.below HB.o qK.o).in2 rfl hlt;obtain rfl:s1=s2:=i_ (hx1.symm.trans hx2);obtain⟨F1,d1,e5,-,GC,r7⟩:=aX.inv hr1;obtain⟨F2,d2,e6,-,Ov,GD⟩:=aX.inv hr2;injection e5 with e5 e7;injection e7 with e7 _;injection e6 with e6 e8;injection e8 with e8 _;subst e5 e6 e7 e8;have C:=q_ (fun(W:World) (h:Below wr.heap.size wr W)=>HY.o W s1 F1 F2 d1 d2 (HB.o.trans (h.mono HB.o.size)) (aU.below ⟨F1,s1.fields.length,d1,rfl,GC,r7⟩ h (fun b hb=>l_ (qL.o b hb) HB.o.size)) (aU.below ⟨F2,s1.fields.length,d2,rfl,Ov,GD⟩ h (fun b hb=>l_ (qK.o b hb) HB.o.size)));have D2:=q_ (fun(W:World) (h:Below wr.heap.size wr W)=>And.intro ((h.cell (p:=a2.add (k*2)) (by rw[az];exact l_ (qK.o _ hb2) HB.o.size)).trans hc2) ((h.cell (p:=⟨(a2.add (k*2)).block,(a2.add (k*2)).off+1,none⟩) (by show(a2.add (k*2)).block<_;rw[az];exact l_ (qK.o _ hb2) HB.o.size)).trans nU));generalize s1.fields.length=f at*;generalize s1.name=nm at*
   have OB:=q_ (ar.new wr 48 #[.string ByteArray.empty,.slice none 0 0]);have BB:=q_ ((Below.refl _ wr).alloc (n_) (.cells #[.string ByteArray.empty,.slice none 0 0] 48));have jeL:=D2.o;clear hx1 hx2 hr1 hr2 GC Ov r7 GD hc2 nU jeL
   go_wp2_with (first
    |(refine ah (cs':=#[.string nm,.slice F1 f d1]) rfl 48 (.tmp 8) (.tmp 21) rfl wr.heap.size (by rfl) (by rfl) OB.o rfl (by kernel_rfl) (by simp[Value.oneCell']) ?_;intro w4 k4 g4
      have B4:=q_ (ai BB.o g4 (n_));have K4:=q_ k4;have OB4:=q_ (ar.new w4 48 #[.string ByteArray.empty,.slice none 0 0]);have BB4:=q_ ((Below.refl _ w4).alloc (n_) (.cells #[.string ByteArray.empty,.slice none 0 0] 48));obtain⟨y1,y2⟩:=D2.o w4 B4.o;clear k4 g4)
    |(refine ah (cs':=#[.string nm,.slice F2 f d2]) rfl 48 (.tmp 9) (.tmp 25) rfl w4.heap.size (by rfl) (by rfl) OB4.o rfl (by kernel_rfl) (by simp[Value.oneCell']) ?_;intro w5 k5 g5
      have B45:=q_ (ai BB4.o g5 (n_));have B5:=q_ (B4.o.trans (B45.o.mono B4.o.size));have z4:=(K4.o.below B45.o K4.o.lt).cell;have z5:=k5.cell;clear k5 g5 y1 y2)
    |fail)
   refine(C.o w5 B5.o).mono ?_
   rintro e w6 ⟨rfl,hb⟩;have B6:=q_ (HB.o.trans ((B5.o.trans (hb.mono B5.o.size)).mono HB.o.size));clear hb z4 z5;go_wp2;go_roundw
   case rel=>exact⟨k+1,by omega,by go_num,B6.o⟩
   case measure=>simp[intOf];omega
  ·have q1:decide ((k:Int)<(m:Int))=false:=by simp;omega
   go_wp2;go_ret;exact⟨rfl,HB.o⟩
theorem jej(d:M.bR)(A1 A2:Option Addr)(c1 c2:Nat)(l:List M.Seg)(S1 S2:Nat->Prop)(w:World)(hS1:∀b,S1 b->b<w.heap.size)(Jg:∀b,S2 b->b<w.heap.size)(ee:bX A1 l.length c1)(oJ:bX A2 l.length c2)(dF:bn aX w S1 A1 l.length l)(hl2:bn aX w S2 A2 l.length l):
 Calls Tryz.prog 11 #[.agg #[.int .u8 (d.f.toNat:Int),.int .u8 (d.c.toNat:Int),.int .u8 (d.r.toNat:Int),.int .u8 (d.e.toNat:Int),.int .u8 (d.s.toNat:Int),.slice A1 l.length c1],.agg #[.int .u8 (d.f.toNat:Int),.int .u8 (d.c.toNat:Int),.int .u8 (d.r.toNat:Int),.int .u8 (d.e.toNat:Int),.int .u8 (d.s.toNat:Int),.slice A2 l.length c2]] w fun e w'=>e= .returned (.bool true)/\Below w.heap.size w w':=by
 have te:∀W,(binOp .eql 24 (.agg #[.int .u8 (d.f.toNat:Int),.int .u8 (d.c.toNat:Int),.int .u8 (d.r.toNat:Int),.int .u8 (d.e.toNat:Int),.int .u8 (d.s.toNat:Int)]) (.agg #[.int .u8 (d.f.toNat:Int),.int .u8 (d.c.toNat:Int),.int .u8 (d.r.toNat:Int),.int .u8 (d.e.toNat:Int),.int .u8 (d.s.toNat:Int)])).run Tryz.prog W= .ok (.bool true) W:=fun W=>by
  rw[Gx d.f d.c d.r d.e d.s d.f d.c d.r d.e d.s W];simp
 have Tu:∀(fn:Fn) (first cap:Array Value) (w:World),(Instr.makeFunc fn first cap).run Tryz.prog w= .ok (.func fn first cap) w:=fun _ _ _ _=>rfl;obtain⟨w2,hw2⟩:∃w2,w2=(w.alloc (.cells #[.int .u8 (d.f.toNat:Int),.int .u8 (d.c.toNat:Int),.int .u8 (d.r.toNat:Int),.int .u8 (d.e.toNat:Int),.int .u8 (d.s.toNat:Int),.slice A1 l.length c1] 27)).alloc (.cells #[.int .u8 (d.f.toNat:Int),.int .u8 (d.c.toNat:Int),.int .u8 (d.r.toNat:Int),.int .u8 (d.e.toNat:Int),.int .u8 (d.s.toNat:Int),.slice A2 l.length c2] 27):=⟨_,rfl⟩
 obtain⟨w5,hw5⟩:∃w5,w5=((w2.alloc (.cells #[.func (.func 33) #[] #[]] 65)).alloc (.cells #[.func (.func 35) #[] #[.pointer (some ⟨w.heap.size+1+1,0,none⟩)]] 80)).alloc (.cells #[.func (.func 37) #[] #[.pointer (some ⟨w.heap.size+1+1+1,0,none⟩)]] 82):=⟨_,rfl⟩
 have s2:w2.heap.size=w.heap.size+1+1:=by rw[hw2];simp
 have s5:w5.heap.size=w.heap.size+1+1+1+1+1:=by rw[hw5];simp[s2]
 have B5:=q_ (show Below w.heap.size w w5 from hw5▸(((((hw2▸((Below.refl _ w).alloc (n_) _).alloc (by simp) _:Below w.heap.size w w2)).alloc (by omega) _).alloc (by simp;omega) _).alloc (by simp;omega) _))
 have k1:ar w5 (w.heap.size+1+1) 65 #[.func (.func 33) #[] #[]]:=by
  rw[hw5,<-s2];exact((ar.new w2 _ _).alloc _).alloc _
 have k2:ar w5 (w.heap.size+1+1+1) 80 #[.func (.func 35) #[] #[.pointer (some ⟨w.heap.size+1+1,0,none⟩)]]:=by
  have:=ar.new (w2.alloc (.cells #[.func (.func 33) #[] #[]] 65)) 80 #[.func (.func 35) #[] #[.pointer (some ⟨w.heap.size+1+1,0,none⟩)]];rw[World.size_alloc,s2] at this;rw[hw5];exact this.alloc _
 have k3:ar w5 (w.heap.size+1+1+1+1) 82 #[.func (.func 37) #[] #[.pointer (some ⟨w.heap.size+1+1+1,0,none⟩)]]:=by
  have:=ar.new ((w2.alloc (.cells #[.func (.func 33) #[] #[]] 65)).alloc (.cells #[.func (.func 35) #[] #[.pointer (some ⟨w.heap.size+1+1,0,none⟩)]] 80)) 82 #[.func (.func 37) #[] #[.pointer (some ⟨w.heap.size+1+1+1,0,none⟩)]];rw[World.size_alloc,World.size_alloc,s2] at this;rw[hw5];exact this
 have f1:=fun b h=>l_ (hS1 b h) B5.o.size;have f2:=fun b h=>l_ (Jg b h) B5.o.size;have y2:=jeJ (w.heap.size+1+1) S1 S2 w5 f1 f2 k1.lt (k1.cell 0);have y3:=jeK (w.heap.size+1+1+1) _ S1 S2 w5 f1 f2 k2.lt (k2.cell 0) y2;have y4:=jeE (w.heap.size+1+1+1+1) _ S1 S2 w5 f1 f2 k3.lt (k3.cell 0) y3;have K:=q_ (jes (w.heap.size+1+1+1+1) A1 A2 c1 c2 l S1 S2 w5 ee oJ (dF.below B5.o hS1) (hl2.below B5.o Jg) f1 f2 y4);have HW:=q_ hw5;have HW2:=q_ hw2;clear ee oJ dF hl2 hS1 Jg f1 f2 y2 y3 y4 k1 k2 k3 s2 s5 hw2 hw5;generalize l.length=m at*;go_enter Tryz.func11,Tryz.ntmps11;go_wp2_with fail;rw[<-HW2.o,<-HW.o];refine K.o.mono ?_;rintro e w6 ⟨rfl,hb⟩;have B6:=q_ (B5.o.trans (hb.mono B5.o.size));clear hb HW HW2;go_wp2;go_ret;exact⟨rfl,B6.o⟩
end
section
open Go Go.RowKit Go.BigFrame Go.Maps Go.WideMaps
theorem Iq.jeF(h:Iq w n m tables now F e w')(hp:M.qw n m tables):
 (∃er u,M.pd n m tables now F=(.error er,u)/\e= .returned (.tuple #[.agg (BM u),.int .i64 er]))\/∃st u,M.pd n m tables now F=(.ok st,u):=by
 cases hr:M.pd n m tables now F with
 |mk r u=>
  cases r with
  |error er=>exact .inl ⟨er,u,rfl,h.err hp hr⟩
  |ok st=>exact .inr ⟨st,u,rfl⟩
theorem jdS{e:Int}(h:e=83\/M.GoodE e):e=2\/e=83\/e=11\/e=3\/e=60:=by
 rcases h with h|h|h|h|h<;>simp[h]
theorem jek{x y:ByteArray}(h:l[k]? =some y):M.fo (l.take (k+1)) x=(M.fo (l.take k) x||M.bJ y x):=by
 unfold M.fo;rw[List.take_add_one,h];simp[M.jdQ x y]
theorem jet(h:l.Pairwise fun a b=>M.bJ a b=false){a b:ByteArray}(hq:l[q]? =some a)(hk:l[k]? =some b)(hlt:q<k):M.bJ a b=false:=by
 obtain⟨h1,rfl⟩:=g_ hq;obtain⟨h2,rfl⟩:=g_ hk;exact List.pairwise_iff_getElem.1 h q k h1 h2 hlt
theorem jdT(a b:ByteArray):(a.toList==b.toList)=M.bJ a b:=by simp[M.bJ,ByteArray.toList_eq]
theorem jd4(ALV:∀w,Calls Tryz.prog 6 #[] w fun e w'=>e= .returned (.bool true)/\Below w.heap.size w w')(n:List M.Node)(A:Option Addr)(c:Nat)(m:M.dQ)(mA:Option Addr)(mc:Nat)(tables:List M.Table)(tA:Option Addr)(tc:Nat)(dests:List ByteArray)(dA:Option Addr)(dc:Nat)(S:Nat->Prop)(w:World)(hS:∀b,S b->b<w.heap.size)(aI:bX A n.length c)(hl:bn ENode w S A n.length n)(EN:bX mA m.aH.length mc)(xk:bn aX w S mA m.aH.length m.aH)(tG:bX tA tables.length tc)(El:bn cV w S tA tables.length tables)(ja':bX dA dests.length dc)(hdl:bn bN w S dA dests.length dests)(hmx:0<w.heap.size/\∃z,w.cell? ⟨0,0,none⟩=some (.int .i64 z)):
 Calls Tryz.prog 4 #[.slice A n.length c,.agg #[.int .u8 (m.d.f.toNat:Int),.int .u8 (m.d.c.toNat:Int),.int .u8 (m.d.r.toNat:Int),.int .u8 (m.d.e.toNat:Int),.int .u8 (m.d.s.toNat:Int),.slice mA m.aH.length mc],.slice tA tables.length tc,.slice dA dests.length dc] w fun e w'=>e= .returned (.bool true)/\Below w.heap.size w w':=by
 have HA:=q_ ALV;obtain⟨w1,bu⟩:∃w1,w1=w.alloc (.cells #[.int .u8 (m.d.f.toNat:Int),.int .u8 (m.d.c.toNat:Int),.int .u8 (m.d.r.toNat:Int),.int .u8 (m.d.e.toNat:Int),.int .u8 (m.d.s.toNat:Int),.slice mA m.aH.length mc] 27):=⟨_,rfl⟩
 have B1:=q_ (show Below w.heap.size w w1 from bu▸(Below.refl _ w).alloc (n_) _);have WR:=q_ (show ar w1 w.heap.size 27 #[.int .u8 (m.d.f.toNat:Int),.int .u8 (m.d.c.toNat:Int),.int .u8 (m.d.r.toNat:Int),.int .u8 (m.d.e.toNat:Int),.int .u8 (m.d.s.toNat:Int),.slice mA m.aH.length mc] from bu▸ar.new w _ _);have tC:=bu.symm;clear bu;have hup:=fun(W:World) (h:Below w.heap.size w W)=>fun b hb=>l_ (hS b hb) h.size;have KR:=q_ (fun(fuel:Int) (W:World) (h:Below w.heap.size w W)=>Vn n A c m mA mc tables tA tc ⟨#[]⟩ fuel S W (hup W h) aI (hl.below h hS) EN (xk.below h hS) tG (El.below h hS) (by decide) ⟨l_ hmx.1 h.size,by obtain⟨z,hz⟩:=hmx.2;exact⟨z,(h.cell (p:=⟨0,0,none⟩) hmx.1).trans hz⟩⟩);have KL:=q_ (fun(W:World) (h:Below w.heap.size w W)=>KH m.d mA mc m.aH S W (hup W h) EN (xk.below h hS));have KV:=q_ (fun(W:World) (h:Below w.heap.size w W)=>uT m.d mA mc m.aH S W (hup W h) EN (xk.below h hS));have KC:=q_ (fun(W:World) (h:Below w.heap.size w W)=>rF n A c dests dA dc tables tA tc S W (hup W h) aI (hl.below h hS) ja' (hdl.below h hS) tG (El.below h hS))
 have HD:=q_ (fun(W:World) (h:Below w.heap.size w W)=>hdl.below h hS);have HUP:=q_ hup;have hdm:=ja'.le;clear ALV hS aI hl EN xk tG El hmx ja' hdl hup;have F1:=q_ (show∀W,Below w.heap.size w W->Calls Tryz.prog 6 #[] W fun e w'=>e= .returned (.bool true)/\Below w.heap.size w w' from fun W h=>(HA.o W).mono fun e w' ⟨h1,h2⟩=>⟨h1,h.trans (h2.mono h.size)⟩);go_enter Tryz.func4,Tryz.ntmps4;have zm:=WR.o.cell;by_cases h3:300<n.length
 ·have q0:decide ((300:Int)<(n.length:Int))=true:=by simp;omega
  clear h3;go_wp2_with fail;refine(F1.o _ B1.o).mono ?_
  rintro e w9 ⟨rfl,Nv⟩;go_wp2;go_ret;exact⟨rfl,Nv⟩
 have q0:decide ((300:Int)<(n.length:Int))=false:=by simp;omega
 clear h3;go_wp2_with fail;refine(KL.o w1 B1.o).mono ?_
 rintro e w2 ⟨⟨b,rfl⟩,hb2⟩;have B2:=q_ (B1.o.trans (hb2.mono B1.o.size));have MB2:=q_ (WR.o.below hb2 WR.o.lt);clear hb2 zm KL tC;cases b with
 |false=>
  go_wp2_with fail;refine(F1.o _ B2.o).mono ?_
  rintro e w9 ⟨rfl,Nv⟩;go_wp2;go_ret;exact⟨rfl,Nv⟩
 |true=>
 by_cases h4:20<tables.length
 ·have q1:decide ((20:Int)<(tables.length:Int))=true:=by simp;omega
  clear h4;go_wp2_with fail;refine(F1.o _ B2.o).mono ?_
  rintro e w9 ⟨rfl,Nv⟩;go_wp2;go_ret;exact⟨rfl,Nv⟩
 have q1:decide ((20:Int)<(tables.length:Int))=false:=by simp;omega
 clear h4;by_cases h5:20<dests.length
 ·have q2:decide ((20:Int)<(dests.length:Int))=true:=by simp;omega
  clear h5;go_wp2_with fail;refine(F1.o _ B2.o).mono ?_
  rintro e w9 ⟨rfl,Nv⟩;go_wp2;go_ret;exact⟨rfl,Nv⟩
 have q2:decide ((20:Int)<(dests.length:Int))=false:=by simp;omega
 clear h5;have zm:=MB2.o.cell;go_wp2_with fail;refine(KV.o w2 B2.o).mono ?_
 rintro e w3 ⟨rfl,hb3⟩;have B3:=q_ (B2.o.trans (hb3.mono B2.o.size));have Vk:=q_ (MB2.o.below hb3 MB2.o.lt);clear hb3 zm KV;cases hv:M.valid m with
 |false=>
  go_wp2_with fail;refine(F1.o _ B3.o).mono ?_
  rintro e w9 ⟨rfl,Nv⟩;go_wp2;go_ret;exact⟨rfl,Nv⟩
 |true=>
 have HV:=q_ hv;clear hv;go_wp2_with fail;refine(KC.o w3 B3.o).mono ?_
 rintro e w4 ⟨hb4,hce⟩;have B4:=q_ (B3.o.trans (hb4.mono B3.o.size));have MB4:=q_ (Vk.o.below hb4 Vk.o.lt);clear hb4 KC;rcases hce with⟨SE,rfl⟩|⟨-,k,z,hk,rfl⟩
 rotate_left
 ·have q3:(k !=0)=true:=by simp[hk]
  clear hk;go_wp2_with fail;refine(F1.o _ B4.o).mono ?_
  rintro e w9 ⟨rfl,Nv⟩;go_wp2;go_ret;exact⟨rfl,Nv⟩
 have HPL:=q_ (M.jdv HV.o SE);have HEN:=q_ (M.jdR ⟨#[]⟩ 2000 HV.o SE);clear SE;have zm:=MB4.o.cell;go_wp2_with fail;refine(KR.o 2000 w4 B4.o).mono ?_
 rintro e w5 Co;have hf:M.df 2000=2000:=by decide
 rw[hf] at Co;have B5:=q_ (B4.o.trans (Co.1.mono B4.o.size));have D45:=q_ (show Below w4.heap.size w4 w5 from Co.1);have OB:=q_ (ar.new w5 35 jJ);have BB:=q_ ((Below.refl _ w5).alloc (n_) (.cells jJ 35));clear zm hf q0 q1 q2;rcases Co.jeF HPL.o with⟨er,u,hst,rfl⟩|⟨st,u,hst⟩
 ·have hgc:=jdS (HEN.o.1 er u hst)
  clear Co hst;unfold BM jJ at*;rcases hgc with rfl|rfl|rfl|rfl|rfl
  all_goals
   go_wp2_with (first
    |(refine ah (cs':=BM u) rfl 35 (.tmp 11) (.tmp 56) rfl w5.heap.size (by rfl) (by rfl) OB.o rfl (by kernel_rfl) (by simp[BM,Value.oneCell']) ?_;intro w6 k6 g6
      have B6:=q_ (B5.o.trans ((ai BB.o g6 (n_)).mono B5.o.size));clear k6 g6)
    |fail)
   refine(F1.o w6 B6.o).mono ?_
   rintro e w7 ⟨rfl,gW⟩;go_wp2;go_ret;exact⟨rfl,gW⟩
 have HFN:=q_ (HEN.o.2 st u hst);obtain⟨A1,c1,A2,c2,rfl,hm5,jeM⟩:=Co.ok HPL.o hst;obtain⟨A1',n1,c1',e1,ee,dF⟩:=hm5;obtain⟨A2',n2,c2',e2,oJ,hl2⟩:=jeM;simp only[List.cons.injEq,Value.slice.injEq,and_true] at e1 e2;obtain⟨rfl,rfl,rfl⟩:=e1;obtain⟨rfl,rfl,rfl⟩:=e2;have HM1:=q_ (And.intro ee dF);have HR2:=q_ hl2;have hrm:=oJ.le;have HN5:=q_ (show∀b,New w4 w5 b->b<w5.heap.size from fun b h=>h.2);clear Co hst ee dF oJ hl2 HEN HPL;unfold jJ at OB BB
 go_wp2_with (first
  |(refine ah (cs':=bq st.m.d (.slice A1 st.m.aH.length c1) (.slice A2 st.routes.length c2) st.stopped M.cW (u:Nat)) rfl 35 (.tmp 11) (.tmp 56) rfl w5.heap.size (by rfl) (by rfl) OB.o rfl (by kernel_rfl) (by simp[bq,Value.oneCell']) ?_;intro w6 k6 g6
    have WT:=q_ (ai BB.o g6 (n_));have K6:=q_ k6;have B6:=q_ (B5.o.trans (WT.o.mono B5.o.size));have zr:=k6.cell 6;clear k6 g6)
  |fail)
 clear zr;go_loopw [13] (fun x wr=>∃k:Nat,k<=st.routes.length/\x= .int .i64 k/\Below w6.heap.size w6 wr) (fun x _=>st.routes.length-(intOf x).toNat)
 case atStart=>exact⟨0,by omega,rfl,Below.refl _ _⟩
 case round=>
  obtain⟨k,hk,rfl,bS⟩:=hrel;have HB:=q_ bS;have zr:wr.cell? ⟨w5.heap.size,6,none⟩=some (.slice A2 st.routes.length c2):=(K6.o.below bS K6.o.lt).cell 6;clear bS;by_cases hlt:k<st.routes.length
  ·have q1:decide ((k:Int)<(st.routes.length:Int))=true:=by simp;omega
   obtain⟨ar,r,u1,rfl,hb1,hx1,hr1,hc1⟩:=HR2.o.in1 rfl hlt;obtain⟨rfl,-⟩:=bN.inv hr1;have HX:=q_ hx1;have CR:=q_ (fun(W:World) (h:Below w6.heap.size w6 W)=>((WT.o.trans (h.mono WT.o.size)).cell (p:=ar.add k) (by rw[az];exact HN5.o _ hb1)).trans hc1);have HT:=q_ (show M.fo dests r=true from HFN.o.told r (m_ hx1));have RS:=q_ (fun(q:Nat) (h:q<k)=>HR2.o.in1 (k:=q) rfl (Nat.lt_trans h hlt));clear hx1 hr1 hc1;go_wp2_with fail;clear zr;go_loopw [14,15] (fun f x w2=>∃q:Nat,q<=dests.length/\f= .bool (M.fo (dests.take q) r)/\x= .int .i64 q/\Below w6.heap.size w6 w2) (fun _ x _=>dests.length-(intOf x).toNat)
   case atStart=>exact⟨0,by omega,rfl,rfl,HB.o⟩
   case round=>
    obtain⟨q,hq,rfl,rfl,eZ⟩:=hrel;have j9:=q_ eZ;have zr:_=some (Value.slice (some ar) st.routes.length c2):=(K6.o.below eZ K6.o.lt).cell 6;have cr:=CR.o _ eZ;clear eZ;by_cases Ox:q<dests.length
    ·have q3:decide ((q:Int)<(dests.length:Int))=true:=by simp;omega
     obtain⟨ad,y,u2,rfl,hb2,hx2,hr2,hc2⟩:=(HD.o _ (B6.o.trans (j9.o.mono B6.o.size))).in1 rfl Ox;obtain⟨rfl,-⟩:=bN.inv hr2;have Ml:=q_ (jek (x:=r) hx2);have HE:=q_ (jdT y r);clear hx2 hr2;cases hb:M.fo (dests.take q) r
     all_goals
      rw[hb] at Ml;go_wp2_with fail
      go_quiet (fail)
      go_wp2;go_roundw
      case rel=>exact⟨q+1,by omega,by rw[Ml.o];first|rfl|(rw[<-HE.o];rfl),by go_num,below_drewN j9.o _⟩
      case measure=>simp[intOf];omega
    ·obtain rfl:q=dests.length:=by omega
     have q3:decide ((dests.length:Int)<(dests.length:Int))=false:=by simp
     rw[List.take_length,HT.o];clear zr cr;go_wp2_with fail;go_loopw [14,16] (fun f x w2=>∃q:Nat,q<=k/\f= .bool true/\x= .int .i64 q/\Below w6.heap.size w6 w2) (fun _ x _=>k-(intOf x).toNat)
     case atStart=>exact⟨0,by omega,rfl,rfl,j9.o⟩
     case round=>
      obtain⟨q,hq,rfl,rfl,Pg⟩:=hrel;have HB3:=q_ Pg;have zr:_=some (Value.slice (some ar) st.routes.length c2):=(K6.o.below Pg K6.o.lt).cell 6;have cr:=CR.o _ Pg;by_cases Ox:q<k
      ·have q4:decide ((q:Int)<(k:Int))=true:=by simp;omega
       have q5:decide ((q:Int)<(st.routes.length:Int))=true:=by simp;omega
       obtain⟨ar2,y,u2,e2,hb2,hx2,hr2,hc2⟩:=RS.o q Ox;injection e2 with e2;subst e2;obtain⟨rfl,-⟩:=bN.inv hr2;have cq:=((WT.o.trans (Pg.mono WT.o.size)).cell (p:=ar.add q) (by rw[az];exact HN5.o _ hb2)).trans hc2;have HNE:(y.toList==r.toList)=false:=(jdT y r).trans (jet HFN.o.once hx2 HX.o Ox);have HNE2:(y.toList !=r.toList)=true:=by rw[bne,HNE];rfl
       clear hx2 hr2 hc2 Pg;go_wp2_with fail
       go_quiet (fail)
       go_wp2;go_roundw
       case rel=>exact⟨q+1,by omega,rfl,by go_num,below_drewN HB3.o _⟩
       case measure=>simp[intOf];omega
      ·have q4:decide ((q:Int)<(k:Int))=false:=by simp;omega
       clear Pg;go_wp2_with fail;go_roundw
       case rel=>exact⟨k+1,by omega,by go_num,HB3.o⟩
       case measure=>simp[intOf];omega
  ·have q1:decide ((k:Int)<(st.routes.length:Int))=false:=by simp;omega
   have VM:=(M.jc1 st.m).2 HFN.o.valid;have HCN:=HFN.o.same;have KX:=q_ (K6.o.below HB.o K6.o.lt);have KA:=q_ (fun(W:World)=>HA.o W);have N6:=q_ (show∀b,New w4 w5 b->b<wr.heap.size from fun b h=>l_ (HN5.o b h) (t_ WT.o.size HB.o.size));have L6:=q_ (fun(W:World) (h:aj wr W)=>HM1.o.2.below ((WT.o.trans (HB.o.mono WT.o.size)).trans (h.mono (t_ WT.o.size HB.o.size))) (fun b h=>h.2));have UP:=q_ (fun(W:World) (h:aj wr W)=>fun b hb=>l_ (N6.o b hb) h.size)
   have KVM:=q_ (fun(W:World) (h:aj wr W)=>show Calls Tryz.prog 9 #[.agg #[.int .u8 (st.m.d.f.toNat:Int),.int .u8 (st.m.d.c.toNat:Int),.int .u8 (st.m.d.r.toNat:Int),.int .u8 (st.m.d.e.toNat:Int),.int .u8 (st.m.d.s.toNat:Int),.slice A1 st.m.aH.length c1]] W fun e w'=>e= .returned (.bool true)/\aj W w' from by
    have:=uT st.m.d A1 c1 st.m.aH (New w4 w5) W (UP.o W h) HM1.o.1 (L6.o W h);rw[show M.valid ⟨st.m.d,st.m.aH⟩=true from VM] at this;exact this)
   have KCM:=q_ (fun(W:World) (h:aj wr W)=>show Calls Tryz.prog 12 #[.agg #[.int .u8 (st.m.d.f.toNat:Int),.int .u8 (st.m.d.c.toNat:Int),.int .u8 (st.m.d.r.toNat:Int),.int .u8 (st.m.d.e.toNat:Int),.int .u8 (st.m.d.s.toNat:Int),.slice A1 st.m.aH.length c1]] W (CS W st.m) from by
    have:=eP st.m.d A1 c1 st.m.aH (New w4 w5) W HM1.o.1 (L6.o W h) (UP.o W h);rw[show M.canon ⟨st.m.d,st.m.aH⟩=st.m from HCN] at this;exact this)
   have KSM:=q_ (fun(W:World) (h:aj wr W) (A3:Option Addr) (c3:Nat) (S3:Nat->Prop) (h1:bX A3 st.m.aH.length c3) (h2:bn aX W S3 A3 st.m.aH.length st.m.aH) (h3:∀b,S3 b->b<W.heap.size)=>jej st.m.d A1 A3 c1 c3 st.m.aH (New w4 w5) S3 W (UP.o W h) h3 HM1.o.1 h1 (L6.o W h) h2);have BR:=q_ (B6.o.trans (HB.o.mono B6.o.size));unfold bq M.cW at KX;clear VM HCN;go_wp2_with fail;clear zr
   refine aO 14 [] aj (fun
    |11=>some fun u w'=>∃A3 c3 S3,u= .agg #[.int .u8 (st.m.d.f.toNat:Int),.int .u8 (st.m.d.c.toNat:Int),.int .u8 (st.m.d.r.toNat:Int),.int .u8 (st.m.d.e.toNat:Int),.int .u8 (st.m.d.s.toNat:Int),.slice A3 st.m.aH.length c3]/\bX A3 st.m.aH.length c3/\(∀b,S3 b->b<w'.heap.size)/\bn aX w' S3 A3 st.m.aH.length st.m.aH
    |_=>none) (by kernel_rfl) (by kernel_rfl) aj.refl (by simp) (aj.draw _) aj.trans ?_ ?_
   ·intro j φ u x y hB hp jK
    split at hB<;>cases hB;obtain⟨A3,c3,S3,e,aI,hs,hl⟩:=hp;exact⟨A3,c3,S3,e,aI,fun b h=>l_ (hs b h) jK.size,hl.below jK hs⟩
   ·apply au rfl rfl
    ·intro vs wx hk K hK
     go_simp
     first
      |exact hK _ (aj.refl _)
      |exact Calls.free hK ((KA.o wx).mono fun e w' h=>h)
    intro KK af;go_simp;refine af _ ?_;clear af KK
    iterate 10
     apply au rfl rfl
     ·intro vs wx hk K hK
      first
      |have c0:=fun i=>(KX.o.stays hk.1).cell i
       go_simp;exact hK _ (aj.refl _)
      |go_simp
       first
        |exact hK _ (aj.refl _)
        |exact Calls.free hK (KVM.o wx hk.1)
     intro KK af;go_simp;refine af _ ?_;clear af KK
    refine bp rfl ?_ ?_
    ·intro vs wx hk K hK
     go_simp;exact(KCM.o wx hk.1).mono fun e w' ⟨A3,c3,he,aI,hl,hb⟩=>⟨_,he,hK _ _ hb ⟨A3,c3,New wx w',rfl,aI,fun b h=>h.2,hl⟩⟩
    intro KK af;go_simp;refine af _ ?_;clear af KK;apply au rfl rfl
    ·intro vs wx hk K hK
     obtain⟨A3,c3,S3,e3,ly,hs3,KJ⟩:=hk.2 11 _ rfl (by kernel_rfl);go_simp
     first
      |exact hK _ (aj.refl _)
      |exact Calls.free hK ((KSM.o wx hk.1 A3 c3 S3 ly KJ hs3).mono fun e w' h=>h)
    intro KK af;go_simp;refine af _ ?_;clear af KK
    skip
    apply au rfl rfl
    ·intro vs wx hk K hK
     go_simp;exact hK _ (aj.refl _)
    intro KK af;go_simp;refine af _ ?_;clear af KK;refine bg ?_;intro vs w7 hs7 hv7;have B7:=q_ (BR.o.trans (hs7.mono BR.o.size));intro KK af;simp only[List.drop_succ_cons];clear hs7 hv7;go_wp2_with fail;go_ret;exact⟨rfl,B7.o⟩
end
section
open Go.RowKit Go.WideShapes Go.ChangeShapes Go.ChangeAt
section
variable {H:Type} {enc:TypeId×Value->H} {P:Program}
theorem xQ{f:Func}{s:ChangeSpec}{apart fresh handsOn again:Bool}{W W':World}{args:Array Value}{v:Value}{ds gs:List (DataW H)}{before pa pv:List MemPlace}(hW:DataW.Whole enc P f.params.toList s.vars apart W args.toList ds gs before)(hres:∀(b:Nat) (sp:Nat->Bool) (hd:Bool),DataW.TrodAll enc P W' b sp hd f.resultTypes.toList (v.resultList f.resultTypes.size) (s.fn H (ds++gs)).results [])(bo:∀sp:Nat->Bool,(∀p∈before,sp p.block=true)->DataW.TrodAll enc P W' 0 sp true f.params.toList args.toList (s.fn H (ds++gs)).args pa)(WU:∀sp:Nat->Bool,(∀p∈before,sp p.block=true)->DataW.TrodVars enc P W' sp s.vars (s.fn H (ds++gs)).vars pv)(SE:before=pa++pv)(hb:Below W.heap.size W W')(aI:∀(j:Nat) (t:TypeId) (r:Value),f.resultTypes[j]? =some t->(v.resultList f.resultTypes.size)[j]? =some r->Value.okWide P W' .any 0 t r):
 s.post enc P f apart fresh handsOn again W args v W':=by
 have hlt:∀p∈before,p.block<W.heap.size:=fun p hp=>hW.lt p hp;have hold:∀p∈before,(fun b=>decide (b<W.heap.size)) p.block=true:=fun p hp=>by simpa using hlt p hp
 refine⟨ds,gs,before,[],pa,pv,hW,hres _ _ _,bo _ hold,WU _ hold,World.keptBut_mono (fun p hp=>⟨hp,?_⟩) (hb.frame (·∈before)),fun _=> ?_⟩
 ·rw[SE,List.mem_append] at hp
  exact Or.inr hp
 ·obtain⟨_,_,_,_,_,hz,hn⟩:=hW
  refine⟨aI,_,_,([]++pa)++pv,⟨[]++pa,pv,trodAll_append (bo _ (fun _ _=>rfl)) (hres _ _ _),WU _ (fun _ _=>rfl),rfl,?_,?_⟩,?_⟩
  ·intro b off hp
   have dr:MemPlace.cell b off∈before:=by rw[SE];simpa using hp
   rw[hb.frozen (hlt _ dr)];exact hz b off dr
  ·intro ha
   have:=hn ha;rw[SE] at this;simpa using this
  ·intro p hp _
   rw[SE];simpa using hp
end
theorem own:ownKnob Tryz.prog.godebug=none:=by kernel_rfl
end
section
open Go.ChangeShapes Go.WideShapes Go.ChangeAt Go.RowKit
open Go.ChangeMaps (open_string shut_string)
theorem kQ{B:Nat}(h:Below B w w'){p:MemPlace}(hp:p.block<B):w.sameAt w' p:=by
 cases p with
 |cell b off=>exact h.cell (p:=⟨b,off,none⟩) hp
 |map b=>exact h.block b hp
def J5:Prop:=∀w,Calls Tryz.prog 6 #[] w fun e w'=>e= .returned (.bool true)/\Below w.heap.size w w'
abbrev RD:List (String×DataW Unit):=[("unicode/utf8.acceptRanges",Rows.laid_unicode_utf8_acceptRanges),("unicode/utf8.first",Rows.laid_unicode_utf8_first)]
theorem EP:(((begin Tryz.prog (fun _ _=>0) default).world.heap[0]?).bind Obj.row?).map (fun x=>(x.1.size,x.2))=some (1,3):=by kernel_rfl
theorem ER{W:World}(h:W.ShapedOpen Tryz.prog):0<W.heap.size/\∃z,W.cell? ⟨0,0,none⟩=some (.int .i64 z):=by
 obtain⟨⟨zero,t⟩,h1,h2⟩:=Option.map_eq_some_iff.1 EP;simp only[Prod.mk.injEq] at h2;obtain⟨hz,rfl⟩:=h2;obtain⟨z,hc⟩:=cell_of_shapedOpen_int h (g:=0) (of_decide_eq_true (by kernel_rfl)) h1 hz (by kernel_rfl) (by kernel_rfl) Tryz.underlying3;exact⟨World.block_lt_of_cell? _ _ hc,z,hc⟩
theorem contract(ALV:J5)(H:Type)(enc:TypeId×Value->H)(W:World)(base:Nat)(args:Array Value)(ds gs:List (DataW H))(before:List MemPlace)(WV:∀(j:Nat) t v,Tryz.f4.params[j]? =some t->args[j]? =some v->Value.okWide Tryz.prog W .any base t v)(hW:DataW.Whole enc Tryz.prog Tryz.f4.params.toList Rows.evalPassesSpec.vars false W args.toList ds gs before)(hk:Rows.uptoSmall H (ds++gs)=true)(kZ:W.ShapedOpen Tryz.prog):
 Calls Tryz.prog 4 args W fun e W'=>∃v,e= .returned v/\Rows.evalPassesSpec.post enc Tryz.prog Tryz.f4 false true false false W args v W':=by
 have hval:∀(j:Nat) t v,Tryz.f4.params[j]? =some t->args[j]? =some v->Value.okWide Tryz.prog W .any base t v:=WV;have hW':=hW;obtain⟨p,q,We,hV,rfl,_,_⟩:=hW;have hA:DataW.TrodAll enc Tryz.prog W 0 (fun _=>true) true Tryz.f4.params.toList args.toList ds p:=We;rw[Tryz.params4] at hA hval;obtain⟨v0,vs0,d0,ds0,p0,q0,bo,rfl,rfl,h0,r0⟩:=trodAll_cons hA;obtain⟨v1,vs1,d1,ds1,p1,q1,rfl,rfl,rfl,h1,r1⟩:=trodAll_cons r0;obtain⟨v2,vs2,d2,ds2,p2,q2,rfl,rfl,rfl,h2,r2⟩:=trodAll_cons r1;obtain⟨v3,vs3,d3,ds3,p3,q3,rfl,rfl,rfl,h3,r3⟩:=trodAll_cons r2;obtain⟨rfl,rfl,rfl⟩:=trodAll_nil r3;obtain rfl:args=#[v0,v1,v2,v3]:=by cases args;simp_all
 obtain⟨rfl,rfl⟩:=trodVars_none hV;have hb:=of_decide_eq_true hk;simp only[List.append_nil,Rows.uptoBulkAll] at hb;have k0:=h0;have k1:=h1;have k2:=h2;obtain⟨A,c,n,rfl,aI,hl⟩:=ya Tryz.underlying22 (dK Tryz.underlying22 (by kernel_rfl) F7) (hval 0 22 v0 rfl rfl) h0 (by omega);obtain⟨m,mA,mc,rfl,EN,xk⟩:=Od (hval 1 27 v1 rfl rfl) h1 (by omega);obtain⟨tA,tc,tables,rfl,tG,El⟩:=ya Tryz.underlying28 (dK Tryz.underlying28 (by kernel_rfl) CW) (hval 2 28 v2 rfl rfl) h2 (by omega);have k3:=h3;obtain⟨dA,dc,dests,rfl,ja',hdl⟩:=ya Tryz.underlying31 (dK Tryz.underlying31 (by kernel_rfl) jR) (hval 3 31 v3 rfl rfl) h3 (by omega);clear We WV;simp only[List.append_nil] at hW';refine(jd4 ALV n A c m mA mc tables tA tc dests dA dc (fun b=>b<W.heap.size) W (fun b h=>h) aI hl EN xk tG El ja' hdl (ER kZ)).mono fun e W' ⟨he,hb⟩=> ?_
 subst he
 exact⟨_,rfl,xQ (pa:=p0++(p1++(p2++p3))) (pv:=[]) hW' (fun _ _ _=>trodAll_cons_mk (shut_bool Tryz.underlying4 _) trodAll_mk0) (fun sp hsp=>by
  have:=trodAll_cons_mk (WideElems.Trod_stays ma (by kernel_rfl) (of_decide_eq_true (by kernel_rfl)) k0 (fun x hx=>kQ hb (hW'.lt x (by simp[hx]))) (fun x hx=>hsp x (by simp[hx])))
   (trodAll_cons_mk (WideElems.Trod_stays ma (by kernel_rfl) (of_decide_eq_true (by kernel_rfl)) k1 (fun x hx=>kQ hb (hW'.lt x (by simp[hx]))) (fun x hx=>hsp x (by simp[hx])))
   (trodAll_cons_mk (WideElems.Trod_stays ma (by kernel_rfl) (of_decide_eq_true (by kernel_rfl)) k2 (fun x hx=>kQ hb (hW'.lt x (by simp[hx]))) (fun x hx=>hsp x (by simp[hx])))
   (trodAll_cons_mk (WideElems.Trod_stays ma (by kernel_rfl) (of_decide_eq_true (by kernel_rfl)) k3 (fun x hx=>kQ hb (hW'.lt x (by simp[hx]))) (fun x hx=>hsp x (by simp[hx])))
   trodAll_mk0)))
  simp only[List.append_nil] at this;exact this) (fun _ _=>rfl) (by simp)
  hb (ok_one (by kernel_rfl) rfl (okWide_bool_mk Tryz.underlying4 _))⟩
def RF:Array Value:=#[.slice none 0 0,.agg #[.int .u8 0,.int .u8 0,.int .u8 0,.int .u8 0,.int .u8 0,.slice none 0 0],.slice none 0 0,.slice none 0 0]
theorem YS(os:Os){H:Type}(enc:TypeId×Value->H):∃places,DataW.whole enc Tryz.prog ((World.laidAll Tryz.prog os RD).forCall (fun _ _=>0) ⟨#[],RF,[]⟩).memory Tryz.f4.params.toList Rows.evalPassesSpec.vars false RF.toList 8=some ([.nil,.agg [.agg [.lit (.int .u8 0),.lit (.int .u8 0),.lit (.int .u8 0),.lit (.int .u8 0),.lit (.int .u8 0)],.nil],.nil,.nil],[],places):=
 ⟨[],by kernel_rfl⟩
theorem lifted(ALV:J5)(os:Os)(started:os.Started)(H:Type)(enc:TypeId×Value->H)(F:Stop.Interp):
 ReturnsInHanded {} Tryz.checked os 4 .any ((Rows.OpenSpec.upto Rows.evalPassesSpec).preRow enc Tryz.prog Tryz.f4 Rows.evalPassesUptoRow.domain false Rows.evalPassesUptoRow.laid) (((Rows.OpenSpec.upto Rows.evalPassesSpec).at F).post enc Tryz.prog Tryz.f4 false true false false):=by
 obtain⟨places,hx⟩:=YS os enc
 refine returnsInHanded_of_row (C:=Tryz.checked) (s:=Rows.OpenSpec.upto Rows.evalPassesSpec) (show ownKnob Tryz.prog.godebug=none by kernel_rfl) started (by kernel_rfl) Tryz.func4
  ⟨World.laidAll Tryz.prog os RD,fun _ _=>0,⟨#[],RF,[]⟩,World.laidAll_os _ _ _,World.shaped_of_ZipB (by kernel_rfl) (by kernel_rfl),rfl,(Input.okWide_of_okWideB (by kernel_rfl)).2,
   OpenSpec.preRow_of_cond 8 hx (by kernel_rfl) (fun k hk=>by cases hk;kernel_rfl) (by kernel_rfl) (by
    show laidMetH Tryz.prog RD _;rw[MakeChecks.laidMetH_plain _ _ _ (by kernel_rfl)];exact laidMet_laidAll _ (by kernel_rfl) (by kernel_rfl)),by
   simp only[Assume.holds];exact⟨by simp,(fun h=>by cases h),(fun h=>by cases h),(fun d h=>by cases h),(fun d h=>by cases h),(fun h=>by cases h)⟩⟩ ?_
 intro W base args ds gs before hval hW _ ou _ _ kZ _;exact contract ALV H enc W base args ds gs before hval hW (ou _ rfl) kZ
end
section
open Go
theorem RG:Tryz.prog.funcNamed "caduceus/caduceuslaw17.EvalPasses"=some 4:=by kernel_rfl
theorem joined:joinedFacts Tryz.pinned.checked.prog 4 Tryz.f4 (Rows.OpenSpec.upto Rows.evalPassesSpec).bare Rows.evalPassesUptoRow=true:=by kernel_rfl
theorem over:Rows.EvalPassesUptoSaid:=
 OpenClaim.holds_of_cond 4 Tryz.f4 rfl rfl rfl rfl rfl rfl rfl ⟨rfl,rfl,rfl,rfl,rfl⟩ rfl rfl rfl rfl rfl RG Tryz.func4 joined
  (of_decide_eq_true (by as_aux_lemma=>kernel_rfl)) (by unfold Func.isWrapper;first|(rw[if_pos (by decide+kernel)];kernel_rfl)|(rw[if_neg (by decide+kernel)];exact⟨rfl,rfl⟩))
  (fun os started H enc _ F=>by rw[OpenClaim.pre_eq_preRow];exact lifted NV os started H enc F)
theorem MZ(f:FuncId)(fn:Func)(hf:Tryz.pinned.checked.prog.funcNamed "caduceus/caduceuslaw17.EvalPasses"=some f)(hfn:Tryz.pinned.checked.prog.funcs[f]? =some fn):
 true=Tryz.pinned.checked.prog.looks []/\∀(j:Nat) t,fn.params[j]? =some t->Tryz.pinned.checked.prog.wantsStandIn t=false:=by
 obtain rfl:f=4:=i_ (RG.symm.trans hf)|>.symm
 obtain rfl:fn=Tryz.f4:=(i_ (Tryz.func4.symm.trans hfn)).symm;refine⟨by kernel_rfl,fun j t ht=> ?_⟩;rw[Tryz.params4] at ht;have hm:t∈[22,27,28,31]:=by simpa using Array.mem_of_getElem? ht
 exact(show Tryz.prog.wantsStandIn t=false by simpa using List.all_eq_true.1 (show([22,27,28,31].all fun u=> !Tryz.prog.wantsStandIn u)=true by kernel_rfl) t hm)
theorem proved:Rows.EvalPassesUptoCardSaid:=
 Claim7.holds_tied_plain_at .later [] _ _ _ _ over (fun _ h=>by cases h) (by kernel_rfl) (fun _ h=>by cases h) evalPassesUpto_row_tie rfl ⟨rfl,rfl⟩ (by kernel_rfl) rfl MZ (by kernel_rfl)
end
end Go.Proofs.YtpohlhkgbmdieaaGreatDoor
