/- Part 19 of the proof. -/
import Derived.Test.YtpohlhkgbmdieaaGreatDoorW18
set_option linter.unusedVariables false
set_option maxRecDepth 1000000
set_option maxHeartbeats 16000000
namespace Go.Proofs.YtpohlhkgbmdieaaGreatDoor
variable{B:Nat}{α:Type}{E:aU α}{L:Nat->Bool}{S:Nat->Prop}{T:TypeId}{W0:World}{b cl et LY:Nat}{fn:Func}{g:Nat}{p:Tmp}{sh:Value->Prop}{st:Nat}{u:Tmp}{v:Value}{vs:Nat->Value}{w w':World}{xs:List α}{z:Value}
section
open Go Go.RowKit Go.BigFrame
theorem aD.put{n cap:Nat}(h:aD E T w B S (.slice (some ⟨g,0,none⟩) n cap) xs)(k o:Nat)(ho:o<E.n)(u:Value)(x y:α)(hk:xs[k]? =some x)(Ae:∀es,E.R w S es x->(∀i v,es[i]? =some v->w.cell? ⟨g,k*E.n+i,none⟩=some v)->E.R w S (es.set o u) y):aD E T (w.setCell ⟨g,k*E.n+o,none⟩ u) B S (.slice (some ⟨g,0,none⟩) n cap) (xs.set k y):=by
 have hn:=h.FU;have nM:=(g_ hk).1;obtain⟨cs,hr,he⟩:=h.row;have hg:¬S g:=h.apart g rfl;have hcell:∀p:Addr,S p.block->(w.setCell ⟨g,k*E.n+o,none⟩ u).cell? p=w.cell? p:=fun p hp=>World.cell?_of_block (Below.heap_setCell _ _ _ _ (fun e=>hg (by have e':p.block=g:=e;rw[<-e'];exact hp)));rw[hn] at hr;refine⟨⟨cs.set (k*E.n+o) u,by rw[List.length_set,hn];exact(hr.stored _ u).1,fun j z hz=> ?_⟩,h.apart,fun b hb=>by have:=h.there b hb;simpa[World.setCell] using this⟩;by_cases hj:j=k
 ·subst hj
  rw[List.getElem?_set_self nM] at hz;cases hz;obtain⟨es,hR,hi⟩:=he j x hk;have CN:=E.len hR;refine⟨es.set o u,E.keep (Ae es hR fun i v hv=> ?_) (fun _ h=>h) hcell,fun i v hv=> ?_⟩
  ·have:=hi i v hv
   rw[hr.cellAt _ (by
    have h1:=(g_ this).1
    rwa [hr.1] at h1)]
   exact this
  ·by_cases hio:i=o
   ·subst hio
    rw[List.getElem?_set_self (by omega)] at hv;cases hv;rw[List.getElem?_set_self];rw[hr.1]
    calc j*E.n+i<j*E.n+E.n:=by omega
     _=(j+1)*E.n:=by rw[Nat.add_mul,Nat.one_mul]
     _<=n*E.n:=Nat.mul_le_mul_right _ (by omega)
   ·rw[List.getElem?_set_ne (fun e=>hio e.symm)] at hv
    rw[List.getElem?_set_ne (by omega)];exact hi i v hv
 ·rw[List.getElem?_set_ne (fun e=>hj e.symm)] at hz
  obtain⟨es,hR,hi⟩:=he j z hz;have CN:=E.len hR;refine⟨es,E.keep hR (fun _ h=>h) hcell,fun i v hv=> ?_⟩;have dr:i<E.n:=by have:=(g_ hv).1;omega
  rw[List.getElem?_set_ne]
  ·exact hi i v hv
  ·intro e
   rcases Nat.lt_or_gt_of_ne hj with h1|h1
   ·have:(j+1)*E.n<=k*E.n:=Nat.mul_le_mul_right _ h1
    rw[Nat.add_mul,Nat.one_mul] at this;omega
   ·have:(k+1)*E.n<=j*E.n:=Nat.mul_le_mul_right _ h1
    rw[Nat.add_mul,Nat.one_mul] at this;omega
theorem eT(l:List α)(k:Nat)(f:α->α)(x:α)(h:l[k]? =some x):l.modify k f=l.set k (f x):=by
 apply List.ext_getElem?;intro i;rw[List.getElem?_modify,List.getElem?_set];by_cases hi:k=i
 ·subst hi
  obtain⟨h1,h2⟩:=g_ h;simp[h1,h2]
 ·simp[hi]
def gP(E:aU α)(P:Program)(fi:FuncId)(ci:Array Value)(f:α->α)(S:Nat->Prop)(w:World)(B:Nat):Prop:=
 ∀W S' u x,Below w.heap.size w W->(∀b,S' b->S b\/(B<=b/\b<W.heap.size))->(∀b,S' b->b<W.heap.size)->E.R W S' [u] x->Calls P fi (#[u]++ci) W fun e w'=>∃u',e= .returned u'/\E.R w' (fun b=>S' b\/New W w' b) [u'] (f x)/\Below W.heap.size W w'
def WithI(LY et st b:Nat)(z:Value)(sh:Value->Prop)(cl:Nat):Prop:=(LY=249/\et=9/\st=31/\b=16/\z= .string ByteArray.empty/\sh=shStr/\cl=78)\/(LY=247/\et=31/\st=50/\b=24/\z= .slice none 0 0/\sh=shSl/\cl=276)\/(LY=245/\et=50/\st=49/\b=24/\z= .slice none 0 0/\sh=shSl/\cl=275)\/(LY=243/\et=49/\st=46/\b=24/\z= .slice none 0 0/\sh=shSl/\cl=274)
theorem withIS:WithI 249 9 31 16 (.string ByteArray.empty) shStr 78:= .inl ⟨rfl,rfl,rfl,rfl,rfl,rfl,rfl⟩
theorem withIC:WithI 247 31 50 24 (.slice none 0 0) shSl 276:= .inr (.inl ⟨rfl,rfl,rfl,rfl,rfl,rfl,rfl⟩)
theorem withIR:WithI 245 50 49 24 (.slice none 0 0) shSl 275:= .inr (.inr (.inl ⟨rfl,rfl,rfl,rfl,rfl,rfl,rfl⟩))
theorem withIF:WithI 243 49 46 24 (.slice none 0 0) shSl 274:= .inr (.inr (.inr ⟨rfl,rfl,rfl,rfl,rfl,rfl,rfl⟩))
theorem with_info(hI:WithI LY et st b z sh cl):(Tryz.prog.info? et).map (fun i=>(i.zero,i.size,i.bytes))=some (some z,1,b):=by
 rcases hI with⟨rfl,rfl,rfl,rfl,rfl,rfl,rfl⟩|⟨rfl,rfl,rfl,rfl,rfl,rfl,rfl⟩|⟨rfl,rfl,rfl,rfl,rfl,rfl,rfl⟩|⟨rfl,rfl,rfl,rfl,rfl,rfl,rfl⟩
 ·exact ji
 ·exact lV
 ·exact lW
 ·exact lX
theorem with_under(hI:WithI LY et st b z sh cl):Tryz.prog.underlying st=some (.slice et):=by
 rcases hI with⟨rfl,rfl,rfl,rfl,rfl,rfl,rfl⟩|⟨rfl,rfl,rfl,rfl,rfl,rfl,rfl⟩|⟨rfl,rfl,rfl,rfl,rfl,rfl,rfl⟩|⟨rfl,rfl,rfl,rfl,rfl,rfl,rfl⟩<;>kernel_rfl
theorem with_clone(hI:WithI LY et st b z sh cl)(E:aU α)(hE:E.n=1)(A:Option Addr)(m c:Nat)(xs:List α)(S:Nat->Prop)(w:World)(hS:∀b,S b->b<w.heap.size)(aI:bX A m c)(hl:bn E w S A m xs):
 Calls Tryz.prog cl #[.slice A m c] w fun e w'=>∃v,e= .returned v/\aD E et w' w.heap.size S v xs/\Below w.heap.size w w':=by
 rcases hI with⟨rfl,rfl,rfl,rfl,rfl,rfl,rfl⟩|⟨rfl,rfl,rfl,rfl,rfl,rfl,rfl⟩|⟨rfl,rfl,rfl,rfl,rfl,rfl,rfl⟩|⟨rfl,rfl,rfl,rfl,rfl,rfl,rfl⟩
 ·exact clone_any cloneIS E hE A m c xs S w hS aI hl
 ·exact clone_any cloneIC E hE A m c xs S w hS aI hl
 ·exact clone_any cloneIR E hE A m c xs S w hS aI hl
 ·exact clone_any cloneIF E hE A m c xs S w hS aI hl
theorem with_any(hI:WithI LY et st b z sh cl)(E:aU α)(hE:E.n=1)(zz:α)(hzz:∀W S,E.R W S [z] zz)(kZ:∀W S u y,E.R W S [u] y->sh u)(f:α->α)(fi:FuncId)(ci:Array Value)(eU:Enters Tryz.prog fi)(A:Option Addr)(m c:Nat)(xs:List α)(n:Nat)(h1:1<=n)(h2:n<=1048576)(S:Nat->Prop)(w:World)(hS:∀b,S b->b<w.heap.size)(aI:bX A m c)(hl:bn E w S A m xs)(hch:gP E Tryz.prog fi ci f S w w.heap.size):
 Calls Tryz.prog LY #[.slice A m c,.int .i64 n,.func (.func fi) #[] ci] w fun e w'=>∃v,e= .returned v/\E.list.R w' (fun b=>S b\/New w w' b) [v] (M.with_ zz xs n f)/\Below w.heap.size w w':=by
 have hm:=aI.le;have PF:=hl.1;obtain⟨it,hit,hz,hs1,hb1⟩:=info_parts (with_info hI);have KC:=q_ (with_clone hI E hE A m c xs S w hS aI hl);have HU:=q_ (with_under hI);obtain⟨ON,hON⟩:∃ON:World->Value->List α->Prop,ON=fun wr v l=>aD E et wr w.heap.size S v l:=⟨_,rfl⟩
 have HO:=q_ hON;have HC:=q_ hch;have HS:=q_ hS;have GI:=q_ eU;have J1:=q_ hit;have J2:=q_ hz;have J3:=q_ (hs1.trans hE.symm);have J4:=q_ hb1;have HZ:=q_ hzz;have SH:=q_ kZ;have Q1:=q_ hE;have gi:=fun args w=>eU args w;have HW:=q_ (show M.with_ zz xs n f=(xs++List.replicate (n-xs.length) zz).modify (n-1) f from rfl);clear hch hS eU hit hz hs1 hb1 hzz kZ hl aI hE hON;rcases hI with⟨rfl,rfl,rfl,rfl,rfl,rfl,rfl⟩|⟨rfl,rfl,rfl,rfl,rfl,rfl,rfl⟩|⟨rfl,rfl,rfl,rfl,rfl,rfl,rfl⟩|⟨rfl,rfl,rfl,rfl,rfl,rfl,rfl⟩
 all_goals
  first|go_enter Tryz.func249,Tryz.ntmps249|go_enter Tryz.func247,Tryz.ntmps247|go_enter Tryz.func245,Tryz.ntmps245|go_enter Tryz.func243,Tryz.ntmps243
  go_wp2_with fail;refine KC.o.mono ?_;rintro e w2 ⟨v2,rfl,hown2,hb2⟩;have O2:=q_ hown2;have B2:=q_ hb2;clear hown2 hb2;go_wp2_with fail;go_loopw [7] (fun v wr=>∃k:Nat,k<=n-xs.length/\ON wr v (xs++List.replicate k zz)/\Below w.heap.size w wr) (fun v _=>n-lenOf v)
  case atStart=>exact⟨0,by omega,by rw[HO.o];simpa using O2.o,B2.o⟩
  case round=>
   obtain⟨k,hk,hown,hb⟩:=hrel;rw[HO.o] at hown;have Am:(xs++List.replicate k zz).length=m+k:=by simp[PF]
   obtain⟨A3,c3,hv3⟩:=hown.shape;rw[Am] at hv3;subst hv3;have O3:=q_ hown;have B3:=q_ hb;have LL:=q_ Am;have gi:=GI.o;unfold Enters at gi;clear hown hb Am;by_cases hlt:m+k<n
   ·have q1:decide (((m+k:Nat):Int)<(n:Int))=true:=by simp;omega
    have q2:decide ((m:Int)+(k:Int)<(n:Int))=true:=by simp;omega
    have HR:=q_ (show xs++List.replicate (k+1) zz=(xs++List.replicate k zz)++[zz] by rw[List.replicate_succ',List.append_assoc]);go_wp2_with (at_builtin;refine ay rfl (.tmp 15) (.tmp 17) _ rfl it _ _ HU.o J1.o J2.o J3.o J4.o (by rw[Q1.o];rfl) rfl (O3.o.alloc _) ⟨wr.heap.size,0,none⟩ 1 1 [zz] rfl rfl (cH (HZ.o wr S) O3.o.there) (by rw[LL.o];omega) (by omega) (by have:=B3.o.size;simp;omega) ?_;intro o4 w4 bC hb4 hg4 _;have O4:=q_ bC;have B4:=q_ ((B3.o.alloc B3.o.size _).trans hb4);clear bC hb4 hg4)
    have hl4:lenOf o4=m+(k+1):=by
     obtain⟨A4,c4,hv4⟩:=O4.o.shape;rw[hv4];simp[lenOf,PF]
    go_roundw
    case rel=>exact⟨k+1,by omega,by rw[HO.o,HR.o];exact O4.o,B4.o⟩
    case measure=>
     simp only[lenOf] at hl4⊢;omega
   ·have q1:decide (((m+k:Nat):Int)<(n:Int))=false:=by simp;omega
    have q2:decide ((m:Int)+(k:Int)<(n:Int))=false:=by simp;omega
    have XW:=q_ (show k=n-xs.length by omega);have uH:n-1<(xs++List.replicate k zz).length:=by rw[LL.o];omega
    obtain⟨g,cap,x,u,hv,hx,hr,hc,dC,hcm⟩:=O3.o.in1 Q1.o uH;rw[LL.o] at hv dC;cases hv;have Aw:((n:Int)-1)=((n-1:Nat):Int):=by omega
    have HX:=q_ hx;have CC:=q_ (HC.o wr S u x B3.o (fun b h=> .inl h) (fun b h=>l_ (HS.o b h) B3.o.size) hr);have HR:=q_ hr;have ua:=O3.o.aJ (g:=g) rfl;have hnk:n-1<m+k:=by omega
    have e1:wrap64 ((n:Int)-1)=((n-1:Nat):Int):=by unfold wrap64;omega
    clear hx hr Aw;go_wp2_with fail;refine CC.o.mono ?_;rintro e w5 ⟨u',rfl,Co,cT⟩;have Ho:=q_ Co
    have O5:=q_ ((O3.o.below cT).widen (S2:=New wr w5) (fun b h=>h.2) (fun g' oC h=>by
     have h1:=(O3.o.aJ oC).2;have h2:=h.1;omega))
    have B5:=q_ (B3.o.trans (cT.mono B3.o.size));have S5:=q_ cT.size;obtain⟨uv,huv⟩:∃uv,uv=u':=⟨_,rfl⟩
    first|obtain⟨s5,rfl⟩:=SH.o _ _ _ _ Co|obtain⟨A5,n5,c5,rfl⟩:=SH.o _ _ _ _ Co
    have HUV:=q_ huv;clear huv;obtain⟨cs5,ud,V4⟩:=O5.o.row;rw[LL.o] at ud;have f5:=fun j=>ud.frozenAt j;have c5':=(cT.cell (p:=⟨g,n-1,none⟩) ua.2).trans hc;clear Co cT ud V4;go_wp2_with fail;go_ret
    have hput:=O5.o.put (n-1) 0 (by rw[Q1.o];exact Nat.one_pos) _ x (f x) HX.o (fun es hes _=>by
     have hlen:=E.len hes;rw[Q1.o] at hlen;obtain⟨u0,rfl⟩:=one_cell hlen;exact Ho.o)
    rw[Q1.o,Nat.mul_one,Nat.add_zero] at hput
    have Cm:=hput.reads (S':=fun b=>S b\/New w (w5.setCell ⟨g,n-1,none⟩ uv) b) (fun b hb=>hb.elim .inl (fun h=> .inr ⟨by have:=h.1;have:=B3.o.size;omega,by have:=h.2;simpa[World.setCell] using this⟩)) (fun g' oC=>by
     obtain rfl:g=g':=by simpa[Value.ownBlock] using oC
     exact .inr ⟨ua.1,by have:=S5.o;have:=ua.2;simp[World.setCell];omega⟩) (by rw[List.length_set,LL.o];omega)
    have huv:=HUV.o;subst huv;refine⟨_,rfl,?_,ai B5.o (aV _ _ _ _) ua.1⟩;rw[HW.o,<-XW.o,eT _ _ _ _ HX.o];exact Cm
theorem DR:Enters Tryz.prog 250:=fun _ _=>rfl
theorem DT:Enters Tryz.prog 248:=fun _ _=>rfl
theorem DU:Enters Tryz.prog 246:=fun _ _=>rfl
theorem DV:Enters Tryz.prog 244:=fun _ _=>rfl
theorem TY(v:ByteArray)(hv:v.size<=1048576)(b5:Nat)(S:Nat->Prop)(w:World)(B:Nat)(h5:ar w b5 9 #[.string v]):gP bN Tryz.prog 250 #[.pointer (some ⟨b5,0,none⟩)] (fun _=>v) S w B:=by
 intro W S' u x hW _ SF hr;obtain⟨rfl,hx⟩:=bN.inv hr;show Calls Tryz.prog 250 #[.string x,.pointer (some ⟨b5,0,none⟩)] W _;have z5:=(h5.below hW h5.lt).cell;have KC:=q_ (dT v W (by omega));clear hr SF hW h5;go_enter Tryz.func250,Tryz.ntmps250;go_wp2_with fail;refine KC.o.mono ?_;rintro e w2 ⟨rfl,hb⟩;have HB:=q_ hb;clear hb;go_wp2;go_ret;exact⟨_,rfl,bN.mk hv,HB.o⟩
def PG(sub:Nat)(v:ByteArray)(c:List ByteArray):List ByteArray:=M.with_ ByteArray.empty c sub (fun _=>v)
theorem TZ(aN:ByteArray)(aP aR:Int)(rep comp sub:Nat)(hb:(1<=rep/\rep<=200)/\(1<=comp/\comp<=200)/\1<=sub/\sub<=200)(v:ByteArray)(hv:v.size<=1048576)(b4 b5:Nat)(S:Nat->Prop)(w:World)(B:Nat)(h4:ar w b4 127 #[.string aN,.int .i64 aP,.int .i64 aR,.int .i64 (rep:Nat),.int .i64 (comp:Nat),.int .i64 (sub:Nat)])(h5:ar w b5 9 #[.string v]):
 gP cJ Tryz.prog 248 #[.pointer (some ⟨b4,0,none⟩),.pointer (some ⟨b5,0,none⟩)] (PG sub v) S w B:=by
 intro W S' u x hW _ SF hr;obtain⟨A,c,rfl,aI,hl⟩:=aU.av (E:=bN) hr;show Calls Tryz.prog 248 #[.slice A x.length c,.pointer (some ⟨b4,0,none⟩),.pointer (some ⟨b5,0,none⟩)] W _;have K:=q_ (with_any withIS bN rfl ByteArray.empty (fun _ _=>bN.mk (by decide)) (fun _ _ _ _ h=>⟨_,(bN.inv h).1⟩) (fun _=>v) 250 #[.pointer (some ⟨b5,0,none⟩)] DR A x.length c x sub (by omega) (by omega) S' W SF aI hl (TY v hv b5 S' W W.heap.size (h5.below hW h5.lt)));have z4:=(h4.below hW h4.lt).cell;clear hr SF hW h5 h4 hl aI;go_enter Tryz.func248,Tryz.ntmps248;go_wp2_with fail;refine K.o.mono ?_;rintro e w2 ⟨u2,rfl,hr2,hb2⟩;have HR:=q_ hr2;have HB:=q_ hb2;clear hr2 hb2;go_wp2;go_ret;exact⟨_,rfl,HR.o,HB.o⟩
def PH(comp sub:Nat)(v:ByteArray)(c:List (List ByteArray)):List (List ByteArray):=M.with_ [] c comp (PG sub v)
theorem Ua(aN:ByteArray)(aP aR:Int)(rep comp sub:Nat)(hb:(1<=rep/\rep<=200)/\(1<=comp/\comp<=200)/\1<=sub/\sub<=200)(v:ByteArray)(hv:v.size<=1048576)(b4 b5:Nat)(S:Nat->Prop)(w:World)(B:Nat)(h4:ar w b4 127 #[.string aN,.int .i64 aP,.int .i64 aR,.int .i64 (rep:Nat),.int .i64 (comp:Nat),.int .i64 (sub:Nat)])(h5:ar w b5 9 #[.string v]):
 gP jQ Tryz.prog 246 #[.pointer (some ⟨b4,0,none⟩),.pointer (some ⟨b5,0,none⟩)] (PH comp sub v) S w B:=by
 intro W S' u x hW _ SF hr;obtain⟨A,c,rfl,aI,hl⟩:=aU.av (E:=cJ) hr;show Calls Tryz.prog 246 #[.slice A x.length c,.pointer (some ⟨b4,0,none⟩),.pointer (some ⟨b5,0,none⟩)] W _;have K:=q_ (with_any withIC cJ rfl [] (fun _ _=>aU.fu) (fun _ _ _ _ h=>bF h) (PG sub v) 248 #[.pointer (some ⟨b4,0,none⟩),.pointer (some ⟨b5,0,none⟩)] DT A x.length c x comp (by omega) (by omega) S' W SF aI hl (TZ aN aP aR rep comp sub hb v hv b4 b5 S' W W.heap.size (h4.below hW h4.lt) (h5.below hW h5.lt)));have z4:=(h4.below hW h4.lt).cell;clear hr SF hW h5 h4 hl aI;go_enter Tryz.func246,Tryz.ntmps246;go_wp2_with fail;refine K.o.mono ?_;rintro e w2 ⟨u2,rfl,hr2,hb2⟩;have HR:=q_ hr2;have HB:=q_ hb2;clear hr2 hb2;go_wp2;go_ret;exact⟨_,rfl,HR.o,HB.o⟩
def yK(rep comp sub:Nat)(v:ByteArray)(c:List (List (List ByteArray))):List (List (List ByteArray)):=M.with_ [] c rep (PH comp sub v)
theorem Ub(aN:ByteArray)(aP aR:Int)(rep comp sub:Nat)(hb:(1<=rep/\rep<=200)/\(1<=comp/\comp<=200)/\1<=sub/\sub<=200)(v:ByteArray)(hv:v.size<=1048576)(b4 b5:Nat)(S:Nat->Prop)(w:World)(B:Nat)(h4:ar w b4 127 #[.string aN,.int .i64 aP,.int .i64 aR,.int .i64 (rep:Nat),.int .i64 (comp:Nat),.int .i64 (sub:Nat)])(h5:ar w b5 9 #[.string v]):
 gP cG Tryz.prog 244 #[.pointer (some ⟨b4,0,none⟩),.pointer (some ⟨b5,0,none⟩)] (yK rep comp sub v) S w B:=by
 intro W S' u x hW _ SF hr;obtain⟨A,c,rfl,aI,hl⟩:=aU.av (E:=jQ) hr;show Calls Tryz.prog 244 #[.slice A x.length c,.pointer (some ⟨b4,0,none⟩),.pointer (some ⟨b5,0,none⟩)] W _;have K:=q_ (with_any withIR jQ rfl [] (fun _ _=>aU.fu) (fun _ _ _ _ h=>bF h) (PH comp sub v) 246 #[.pointer (some ⟨b4,0,none⟩),.pointer (some ⟨b5,0,none⟩)] DU A x.length c x rep (by omega) (by omega) S' W SF aI hl (Ua aN aP aR rep comp sub hb v hv b4 b5 S' W W.heap.size (h4.below hW h4.lt) (h5.below hW h5.lt)));have z4:=(h4.below hW h4.lt).cell;clear hr SF hW h5 h4 hl aI;go_enter Tryz.func244,Tryz.ntmps244;go_wp2_with fail;refine K.o.mono ?_;rintro e w2 ⟨u2,rfl,hr2,hb2⟩;have HR:=q_ hr2;have HB:=q_ hb2;clear hr2 hb2;go_wp2;go_ret;exact⟨_,rfl,HR.o,HB.o⟩
theorem Ba(aN:ByteArray)(aP:Int)(aR rep comp sub:Nat)(h1:1<=aR)(h2:aR<=200)(hb:(1<=rep/\rep<=200)/\(1<=comp/\comp<=200)/\1<=sub/\sub<=200)(v:ByteArray)(hv:v.size<=1048576)(A:Option Addr)(m c:Nat)(xs:List (List (List (List ByteArray))))(S:Nat->Prop)(w:World)(hS:∀b,S b->b<w.heap.size)(aI:bX A m c)(hl:bn cG w S A m xs):
 Calls Tryz.prog 173 #[.slice A m c,.agg #[.string aN,.int .i64 aP,.int .i64 aR,.int .i64 (rep:Nat),.int .i64 (comp:Nat),.int .i64 (sub:Nat)],.string v] w fun e w'=>∃u,e= .returned u/\dR.R w' (fun b=>S b\/New w w' b) [u] (M.with_ [] xs aR (yK rep comp sub v))/\Below w.heap.size w w':=by
 obtain⟨w1,bu⟩:∃w1,w1=w.alloc (.cells #[.string aN,.int .i64 aP,.int .i64 aR,.int .i64 (rep:Nat),.int .i64 (comp:Nat),.int .i64 (sub:Nat)] 127):=⟨_,rfl⟩
 obtain⟨w2,hw2⟩:∃w2,w2=w1.alloc (.cells #[.string v] 9):=⟨_,rfl⟩
 have s1:w1.heap.size=w.heap.size+1:=by rw[bu];simp
 have X4:=q_ (show ar w2 w.heap.size 127 #[.string aN,.int .i64 aP,.int .i64 aR,.int .i64 (rep:Nat),.int .i64 (comp:Nat),.int .i64 (sub:Nat)] by rw[hw2,bu];exact(ar.new w _ _).alloc _);have X5:=q_ (show ar w2 (w.heap.size+1) 9 #[.string v] by rw[hw2,<-s1];exact ar.new w1 _ _);have B2:=q_ (show Below w.heap.size w w2 by rw[hw2,bu];exact((Below.refl _ w).alloc (n_) _).alloc (by simp) _);have K:=q_ (with_any withIF cG rfl [] (fun _ _=>aU.fu) (fun _ _ _ _ h=>bF h) (yK rep comp sub v) 244 #[.pointer (some ⟨w.heap.size,0,none⟩),.pointer (some ⟨w.heap.size+1,0,none⟩)] DV A m c xs aR h1 (by omega) S w2 (fun b hb=>l_ (hS b hb) B2.o.size) aI (hl.below B2.o hS) (Ub aN aP aR rep comp sub hb v hv w.heap.size (w.heap.size+1) S w2 w2.heap.size X4.o X5.o));have z4:=X4.o.cell;clear hl aI hS;go_enter Tryz.func173,Tryz.ntmps173;go_wp2_with fail;rw[<-bu,<-hw2];clear bu hw2;go_wp2_with fail;refine K.o.mono ?_;rintro e w3 ⟨u2,rfl,hr2,hb2⟩;have HR:=q_ hr2;have HB:=q_ (B2.o.trans (hb2.mono B2.o.size));clear hr2 hb2;go_wp2;go_ret
 exact⟨_,rfl,aU.wide (E:=dR) HR.o (fun b hb=>hb.elim .inl (fun h=> .inr ⟨t_ B2.o.size h.1,h.2⟩)),HB.o⟩
end
section
open Go Go.RowKit Go.BigFrame Go.Maps Go.WideMaps
theorem iV{a b:ByteArray}:M.bJ a b=true<->a=b:=by
 unfold M.bJ;rw[beq_iff_eq];constructor
 ·intro h
  cases a;cases b;simp at h;rw[h]
 ·intro h
  rw[h]
abbrev LP:=ByteArray×Int×Int×Int×Int×Int
def og(p:LP):Value:= .agg #[.string p.1,.int .i64 p.2.1,.int .i64 p.2.2.1,.int .i64 p.2.2.2.1,.int .i64 p.2.2.2.2.1,.int .i64 p.2.2.2.2.2]
theorem rk:∀x y:LP,og x=og y->x=y:=by
 rintro⟨a,b,c,d,e,f⟩ ⟨a',b',c',d',e',f'⟩ h;simp[og] at h;obtain⟨rfl,rfl,rfl,rfl,rfl,rfl⟩:=h;rfl
def XX:LP:=(⟨#[77,83,72]⟩,0,1,0,0,0)
def XY:LP:=(⟨#[77,83,72]⟩,0,2,0,0,0)
theorem Uc:∃kl,keyOf Tryz.prog 127 (og XX)=some kl:=
 vd ⟨#[77,83,72]⟩ 0 1 0 0 0 (by decide) ⟨by decide,by decide⟩ ⟨by decide,by decide⟩ ⟨by decide,by decide⟩ ⟨by decide,by decide⟩ ⟨by decide,by decide⟩
theorem Ud:∃kl,keyOf Tryz.prog 127 (og XY)=some kl:=
 vd ⟨#[77,83,72]⟩ 0 2 0 0 0 (by decide) ⟨by decide,by decide⟩ ⟨by decide,by decide⟩ ⟨by decide,by decide⟩ ⟨by decide,by decide⟩ ⟨by decide,by decide⟩
theorem jaJ:XX≠XY:=by decide
def lj(a b:Bool)(x:LP):Option Value:=if a=true/\x=XX then some (.agg #[]) else if b=true/\x=XY then some (.agg #[]) else none
abbrev LQ(w:World)(b:Nat)(f:LP->Option Value):Prop:=cY Tryz.prog 127 og w b f
structure fM(W0:World)(L:Nat->Bool)(vs:Nat->Value)(w:World):Prop where
 below:Below W0.heap.size W0 w
 map:L 0=true->∃g,vs 0= .map (some g)/\W0.heap.size<=g/\LQ w g (lj (L 3) (L 6))
 wa:L 3=true->L 0=true
 wb:L 6=true->L 0=true
theorem fM.pure(h:fM W0 L vs w){k:Nat}(h0:k≠0)(h3:k≠3)(h6:k≠6):fM W0 (upd L k) (aS vs k v) w:=by
 have ea:upd L k 0=L 0:=by simp[upd,Ne.symm h0]
 have eb:upd L k 3=L 3:=by simp[upd,Ne.symm h3]
 have ec:upd L k 6=L 6:=by simp[upd,Ne.symm h6]
 have va:aS vs k v 0=vs 0:=by simp[aS,Ne.symm h0]
 exact⟨h.below,by rw[ea,eb,ec,va];exact h.map,by rw[ea,eb];exact h.wa,by rw[ea,ec];exact h.wb⟩
theorem fM.make(h:fM W0 L vs w)(hL:L 0=false):fM W0 (upd L 0) (aS vs 0 (.map (some w.heap.size))) (w.alloc (.map #[] 0)):=by
 have h3:L 3=false:=by cases hc:L 3 with|false=>rfl|true=>rw[h.wa hc] at hL;cases hL
 have h6:L 6=false:=by cases hc:L 6 with|false=>rfl|true=>rw[h.wb hc] at hL;cases hL
 have eb:upd L 0 3=false:=by simp[upd,h3]
 have ec:upd L 0 6=false:=by simp[upd,h6]
 refine⟨h.below.alloc h.below.size _,fun _=>⟨w.heap.size,by simp[aS],h.below.size,?_⟩,(by rw[eb];intro h;cases h),(by rw[ec];intro h;cases h)⟩;rw[eb,ec];exact(cY.made w Tryz.prog 127 og).congr (fun x=>by simp[lj])
theorem fM.jb5(h:fM W0 L vs w)(hL:L 0=true)(hL3:L 3=false)(hv:vs 0= .map (some g))(dS:W0.heap.size<=g)(hm:LQ w' g (fun y=>if y=XX then some (.agg #[]) else lj (L 3) (L 6) y))(hg:w.grownBy w' (some g))(v:Value):fM W0 (upd L 3) (aS vs 3 v) w':=by
 refine⟨ai h.below hg dS,fun _=>⟨g,by simp[aS,hv],dS,?_⟩,fun _=>by simpa[upd] using hL,fun _=>by simpa[upd] using hL⟩;refine hm.congr fun y=> ?_;by_cases hy:y=XX<;>simp[lj,upd,hy,hL3]
theorem fM.jb6(h:fM W0 L vs w)(hL:L 0=true)(hL6:L 6=false)(hv:vs 0= .map (some g))(dS:W0.heap.size<=g)(hm:LQ w' g (fun y=>if y=XY then some (.agg #[]) else lj (L 3) (L 6) y))(hg:w.grownBy w' (some g))(v:Value):fM W0 (upd L 6) (aS vs 6 v) w':=by
 refine⟨ai h.below hg dS,fun _=>⟨g,by simp[aS,hv],dS,?_⟩,fun _=>by simpa[upd] using hL,fun _=>by simpa[upd] using hL⟩;refine hm.congr fun y=> ?_;by_cases hy:y=XY
 ·subst hy
  simp[lj,upd,Ne.symm jaJ]
 ·simp[lj,upd,hy,hL6]
theorem oB(w:World):Calls Tryz.prog 273 #[] w fun e w'=>∃g,e= .returned (.map (some g))/\w.heap.size<=g/\LQ w' g (lj true true)/\Below w.heap.size w w':=by
 have Al:= @run_makeMap Tryz.prog;go_enter Tryz.func273,Tryz.ntmps273;go_wp2_with fail;refine jG 7 [0] (fM w) (by kernel_rfl) (by kernel_rfl) ⟨⟨rfl,rfl,rfl,n_,fun _ _=>rfl⟩,(fun h=>by cases h),(fun h=>by cases h),(fun h=>by cases h)⟩ ?_;refine fU rfl ?_ ?_
 ·intro L vs wx hI hR hL K hK
  go_simp;exact hK _ _ (hI.make hL)
 intro KK af;go_simp;refine af _ ?_;clear af KK
 iterate 6
  apply iW rfl
  ·intro L vs wx hI hR hL K hK
   first
   |have hLa:=hR 0 (by kernel_rfl)
    obtain⟨g,hg,dS,hm⟩:=hI.map hLa;obtain⟨kl,kY⟩:=Uc;obtain⟨w3,hst,Xt,hg3⟩:=hm.store uY Tryz.underlying303 rk kY (.agg #[]);simp only[og,XX] at hst;go_simp;exact hK _ (hI.jb5 hLa hL hg dS Xt hg3 _)
   |have hLa:=hR 0 (by kernel_rfl)
    obtain⟨g,hg,dS,hm⟩:=hI.map hLa;obtain⟨kl,kY⟩:=Ud;obtain⟨w3,hst,Xt,hg3⟩:=hm.store uY Tryz.underlying303 rk kY (.agg #[]);simp only[og,XY] at hst;go_simp;exact hK _ (hI.jb6 hLa hL hg dS Xt hg3 _)
   |go_simp
    exact hK _ (hI.pure (by decide) (by decide) (by decide))
  intro KK af;go_simp;refine af _ ?_;clear af KK
 refine yL ?_;intro vs w6 Ue;obtain⟨g,hg,dS,hm⟩:=Ue.map (by decide);have B6:=q_ Ue.below;have M6:=q_ (show LQ w6 g (lj true true) from hm);intro KK af;rw[hg];clear Ue hg hm;simp only[List.drop_succ_cons];go_wp2;go_ret;exact⟨g,rfl,dS,M6.o,B6.o⟩
theorem PI(s:ByteArray):(s.toList==[77,83,72])=M.bJ s M.x6:=by
 have:=fy s M.x6;rw[<-this,show M.x6.toList=[77,83,72] by rw[ByteArray.toList_eq];rfl]
def never(p:M.Path):Bool:=M.bJ p.aN M.x6&&(decide (p.aR=1)||decide (p.aR=2))
theorem LR(s:ByteArray)(n:Int):lj true true (s,0,n,0,0,0)=if never ⟨s,0,n,0,0,0⟩=true then some (.agg #[]) else none:=by
 have hm:M.bJ s M.x6=true<->s=⟨#[77,83,72]⟩:=iV;unfold lj never XX XY;by_cases h:s=⟨#[77,83,72]⟩
 ·by_cases h1:n=1
  ·simp[h,h1];decide
  ·by_cases h2:n=2
   ·simp[h,h2];decide
   ·simp[h,h1,h2]
 ·have:M.bJ s M.x6=false:=by
   cases hq:M.bJ s M.x6 with
   |false=>rfl
   |true=>exact absurd (hm.1 hq) h
  simp[h,this]
theorem PJ(b:Bool):(if true=true then Value.tuple #[(if b=true then some (Value.agg #[]) else none).getD (Value.agg #[]),Value.bool (if b=true then some (Value.agg #[]) else none).isSome] else(if b=true then some (Value.agg #[]) else none).getD (Value.agg #[]))=Value.tuple #[Value.agg #[],Value.bool b]:=by cases b<;>rfl
theorem XZ(p:M.Path)(whole:Bool):M.may p whole=(M.bM p&& !(never p||(M.bJ p.aN M.x6&&decide (1<p.aP)))&&(decide (0<p.aR)||whole&& !M.bJ p.aN M.x6)):=by
 unfold M.may never;cases M.bM p<;>cases M.bJ p.aN M.x6<;>simp
theorem PK(p:M.Path)(whole:Bool)(w:World)(hp:p.jd):
 Calls Tryz.prog 240 #[.agg #[.string p.aN,.int .i64 p.aP,.int .i64 p.aR,.int .i64 p.rep,.int .i64 p.comp,.int .i64 p.sub],.bool whole] w fun e w'=>e= .returned (.bool (M.may p whole))/\Below w.heap.size w w':=by
 obtain⟨w1,bu⟩:∃w1,w1=w.alloc (.cells #[.string p.aN,.int .i64 p.aP,.int .i64 p.aR,.int .i64 p.rep,.int .i64 p.comp,.int .i64 p.sub] 127):=⟨_,rfl⟩
 have X1:=q_ (show ar w1 w.heap.size 127 #[.string p.aN,.int .i64 p.aP,.int .i64 p.aR,.int .i64 p.rep,.int .i64 p.comp,.int .i64 p.sub] from bu▸ar.new w _ _);have B1:=q_ (show Below w.heap.size w w1 from bu▸(Below.refl _ w).alloc (n_) _);have s1:w1.heap.size=w.heap.size+1:=by rw[bu];simp
 have KV:=q_ (fun(W:World)=>gp p W hp.1);have HM:=q_ (XZ p whole);have z1:=X1.o.cell;go_enter Tryz.func240,Tryz.ntmps240;go_wp2_with fail;rw[<-bu];clear bu;have KS:=q_ (fun(W:World)=>oB W);obtain⟨kl,nM⟩:=vd p.aN 0 p.aR 0 0 0 hp.1 ⟨by decide,by decide⟩ hp.2.2.1 ⟨by decide,by decide⟩ ⟨by decide,by decide⟩ ⟨by decide,by decide⟩;have HK:=q_ nM;have HL:=q_ (LR p.aN p.aR);have HNV:=q_ (show never ⟨p.aN,0,p.aR,0,0,0⟩=never p from rfl)
 refine aO 11 [9] aj (fun
  |0=>some fun u w'=>∃g,u= .map (some g)/\LQ w' g (lj true true)
  |10=>some fun u w'=>∃g,u= .pointer (some ⟨g,0,none⟩)/\w1.heap.size<=g/\ar w' g 301 #[]
  |_=>none) (by kernel_rfl) (by kernel_rfl) aj.refl (by simp) (aj.draw _) aj.trans ?_ ?_
 ·intro j φ u x y hB hp jK
  split at hB<;>cases hB
  ·obtain⟨g,e,hm⟩:=hp
   exact⟨g,e,hm.stays jK⟩
  ·obtain⟨g,e,dS,hk⟩:=hp
   exact⟨g,e,dS,hk.stays jK⟩
 ·refine bp rfl ?_ ?_
  ·intro vs wx hk K hK
   go_simp;exact(KS.o _).mono fun e w' ⟨g,he,dS,hm,hb⟩=>⟨_,he,hK _ _ hb ⟨g,rfl,hm⟩⟩
  intro KK af;go_simp;refine af _ ?_;clear af KK
  iterate 8
   apply au rfl rfl
   ·intro vs wx hk K hK
    first
    |have c0:=fun i=>(X1.o.stays hk.1).cell i
     go_simp;exact hK _ (aj.refl _)
    |obtain⟨g,e,hm⟩:=hk.2 0 _ rfl (by kernel_rfl)
     have hl:=hm.look uY Tryz.underlying303 rk (x:=(p.aN,0,p.aR,0,0,0)) HK.o (Tryz.zeroValue301 wx) true;rw[HL.o,HNV.o,PJ] at hl;simp only[og] at hl;go_simp;exact hK _ (aj.refl _)
   intro KK af;go_simp;refine af _ ?_;clear af KK
  apply DW rfl rfl
  ·intro vs wx K hK
   go_simp;exact hK
  intro KK af;go_simp;refine af _ ?_;clear af KK;refine bp rfl ?_ ?_
  ·intro vs wx hk K hK
   go_simp;exact hK _ _ (aj.alloc _ _) ⟨_,rfl,hk.1.size,ar.new _ _ _⟩
  intro KK af;go_simp;refine af _ ?_;clear af KK;refine bg ?_;intro vs w4 yb hv4;obtain⟨g,e,dS,hg⟩:=hv4 10 _ (by omega) rfl;intro KK af;rw[e];have X4:=q_ (X1.o.stays yb);have S4:=q_ yb;have B4:=q_ (Kn B1.o yb);have HG:=q_ hg;simp only[List.drop_succ_cons];clear yb hv4 e hg z1;have yF:=PI p.aN;cases hV:M.bM p with
  |false=>
   have HF:=q_ (show M.may p whole=false by rw[HM.o,hV];rfl);refine ah (cs':=#[]) rfl 301 (.tmp 5) (.tmp 15) rfl g (by rfl) (by rfl) HG.o rfl (by kernel_rfl) (by simp) ?_;intro w5 k5 g5;have X5:=q_ (X4.o.aK g5 (by omega));have B5:=q_ (ai B4.o g5 (by omega));have z5:=X5.o.cell;clear k5 g5;go_wp2_with fail;refine(KV.o _).mono ?_
   rintro e w6 ⟨rfl,dw⟩;have B6:=q_ (B5.o.trans (dw.mono B5.o.size));have z6:=(X5.o.below dw X5.o.lt).cell;clear dw;go_wp2;go_ret;exact⟨by rw[HF.o];rfl,B6.o⟩
  |true=>
   cases hN:never p with
   |true=>
    have HF:=q_ (show M.may p whole=false by rw[HM.o,hN];simp);refine ah (cs':=#[]) rfl 301 (.tmp 5) (.tmp 15) rfl g (by rfl) (by rfl) HG.o rfl (by kernel_rfl) (by simp) ?_;intro w5 k5 g5;have X5:=q_ (X4.o.aK g5 (by omega));have B5:=q_ (ai B4.o g5 (by omega));have z5:=X5.o.cell;clear k5 g5;go_wp2_with fail;refine(KV.o _).mono ?_
    rintro e w6 ⟨rfl,dw⟩;have B6:=q_ (B5.o.trans (dw.mono B5.o.size));have z6:=(X5.o.below dw X5.o.lt).cell;clear dw;go_wp2;go_ret;exact⟨by rw[HF.o];rfl,B6.o⟩
   |false=>
    cases hE:M.bJ p.aN M.x6 with
    |true=>
     rw[hE] at yF;by_cases hO:1<p.aP
     ·have q1:decide (1<p.aP)=true:=by simp[hO]
      have HF:=q_ (show M.may p whole=false by rw[HM.o,hE,q1];simp);refine ah (cs':=#[]) rfl 301 (.tmp 5) (.tmp 15) rfl g (by rfl) (by rfl) HG.o rfl (by kernel_rfl) (by simp) ?_;intro w5 k5 g5;have X5:=q_ (X4.o.aK g5 (by omega));have B5:=q_ (ai B4.o g5 (by omega));have z5:=X5.o.cell;clear k5 g5;go_wp2_with fail;refine(KV.o _).mono ?_
      rintro e w6 ⟨rfl,dw⟩;have B6:=q_ (B5.o.trans (dw.mono B5.o.size));have z6:=(X5.o.below dw X5.o.lt).cell;clear dw;go_wp2;go_ret;exact⟨by rw[HF.o];rfl,B6.o⟩
     ·have q1:decide (1<p.aP)=false:=by simp[hO]
      have HF:=q_ (show M.may p whole=decide (0<p.aR) by rw[HM.o,hE,q1,hV,hN];simp);refine ah (cs':=#[]) rfl 301 (.tmp 5) (.tmp 15) rfl g (by rfl) (by rfl) HG.o rfl (by kernel_rfl) (by simp) ?_;intro w5 k5 g5;have X5:=q_ (X4.o.aK g5 (by omega));have B5:=q_ (ai B4.o g5 (by omega));have z5:=X5.o.cell;clear k5 g5;go_wp2_with fail;refine(KV.o _).mono ?_
      rintro e w6 ⟨rfl,dw⟩;have B6:=q_ (B5.o.trans (dw.mono B5.o.size));have z6:=(X5.o.below dw X5.o.lt).cell;clear dw;by_cases hP:0<p.aR
      ·have q2:decide (0<p.aR)=true:=by simp[hP]
       cases whole
       all_goals go_wp2
       all_goals go_ret
       all_goals exact⟨by rw[HF.o,q2];rfl,B6.o⟩
      ·have q2:decide (0<p.aR)=false:=by simp[hP]
       cases whole
       all_goals go_wp2
       all_goals go_ret
       all_goals exact⟨by rw[HF.o,q2];rfl,B6.o⟩
    |false=>
     rw[hE] at yF;have HF:=q_ (show M.may p whole=(decide (0<p.aR)||whole) by rw[HM.o,hE,hV,hN];simp);refine ah (cs':=#[]) rfl 301 (.tmp 5) (.tmp 15) rfl g (by rfl) (by rfl) HG.o rfl (by kernel_rfl) (by simp) ?_;intro w5 k5 g5;have X5:=q_ (X4.o.aK g5 (by omega));have B5:=q_ (ai B4.o g5 (by omega));have z5:=X5.o.cell;clear k5 g5;go_wp2_with fail;refine(KV.o _).mono ?_
     rintro e w6 ⟨rfl,dw⟩;have B6:=q_ (B5.o.trans (dw.mono B5.o.size));have z6:=(X5.o.below dw X5.o.lt).cell;clear dw;by_cases hP:0<p.aR
     ·have q2:decide (0<p.aR)=true:=by simp[hP]
      cases whole
      all_goals go_wp2
      all_goals go_ret
      all_goals exact⟨by rw[HF.o,q2];rfl,B6.o⟩
     ·have q2:decide (0<p.aR)=false:=by simp[hP]
      cases whole
      all_goals go_wp2
      all_goals go_ret
      all_goals exact⟨by rw[HF.o,q2];rfl,B6.o⟩
end
section
open Go Go.RowKit Go.BigFrame
theorem yM(d:M.bR)(A:Option Addr)(c:Nat)(l:List M.Seg)(p:M.Path)(whole:Bool)(S:Nat->Prop)(w:World)(hS:∀b,S b->b<w.heap.size)(aI:bX A l.length c)(hl:bn aX w S A l.length l)(hp:p.jd):
 Calls Tryz.prog 169 #[.agg #[.int .u8 (d.f.toNat:Int),.int .u8 (d.c.toNat:Int),.int .u8 (d.r.toNat:Int),.int .u8 (d.e.toNat:Int),.int .u8 (d.s.toNat:Int),.slice A l.length c],.agg #[.string p.aN,.int .i64 p.aP,.int .i64 p.aR,.int .i64 p.rep,.int .i64 p.comp,.int .i64 p.sub],.bool whole] w fun e w'=>e= .returned (.int .i64 (M.asked ⟨d,l⟩ p whole))/\Below w.heap.size w w':=by
 obtain⟨w1,bu⟩:∃w1,w1=w.alloc (.cells #[.int .u8 (d.f.toNat:Int),.int .u8 (d.c.toNat:Int),.int .u8 (d.r.toNat:Int),.int .u8 (d.e.toNat:Int),.int .u8 (d.s.toNat:Int),.slice A l.length c] 27):=⟨_,rfl⟩
 obtain⟨w2,hw2⟩:∃w2,w2=w1.alloc (.cells #[.string p.aN,.int .i64 p.aP,.int .i64 p.aR,.int .i64 p.rep,.int .i64 p.comp,.int .i64 p.sub] 127):=⟨_,rfl⟩
 have s1:w1.heap.size=w.heap.size+1:=by rw[bu];simp
 have s2:w2.heap.size=w.heap.size+2:=by rw[hw2];simp[s1]
 have X1:=q_ (show ar w2 w.heap.size 27 #[.int .u8 (d.f.toNat:Int),.int .u8 (d.c.toNat:Int),.int .u8 (d.r.toNat:Int),.int .u8 (d.e.toNat:Int),.int .u8 (d.s.toNat:Int),.slice A l.length c] by rw[hw2,bu];exact(ar.new w _ _).alloc _);have X2:=q_ (show ar w2 (w.heap.size+1) 127 #[.string p.aN,.int .i64 p.aP,.int .i64 p.aR,.int .i64 p.rep,.int .i64 p.comp,.int .i64 p.sub] by rw[hw2];exact s1▸ar.new w1 _ _);have B2:=q_ (show Below w.heap.size w w2 by rw[hw2,bu];exact((Below.refl _ w).alloc (n_) _).alloc (by simp) _);have KV:=q_ (uT d A c l S w2 (fun b hb=>l_ (hS b hb) B2.o.size) aI (hl.below B2.o hS));have KM:=q_ (fun(W:World)=>PK p whole W hp);have HA:=q_ (show M.asked ⟨d,l⟩ p whole=if M.valid ⟨d,l⟩=false then 51 else if M.may p whole=false then 60 else 0 from rfl);have z1:=X1.o.cell;have z2:=X2.o.cell;clear hl aI hS hp;go_enter Tryz.func169,Tryz.ntmps169;go_wp2_with fail;rw[<-bu,<-hw2];clear bu hw2;refine KV.o.mono ?_;rintro e w3 ⟨rfl,hb3⟩;have B3:=q_ (B2.o.trans (hb3.mono B2.o.size));have z2:=(X2.o.below hb3 (by omega)).cell;clear hb3 z1;cases hV:M.valid ⟨d,l⟩ with
 |false=>
  have HF:=q_ (show M.asked ⟨d,l⟩ p whole=51 by rw[HA.o,if_pos hV]);go_wp2;go_ret;exact⟨by rw[HF.o];rfl,B3.o⟩
 |true=>
  have HF:=q_ (show M.asked ⟨d,l⟩ p whole=if M.may p whole=false then 60 else 0 by rw[HA.o,if_neg (by rw[hV];simp)]);go_wp2_with fail;refine(KM.o _).mono ?_
  rintro e w4 ⟨rfl,hb4⟩;have B4:=q_ (B3.o.trans (hb4.mono B3.o.size));clear hb4;cases hM:M.may p whole with
  |false=>
   go_wp2;go_ret;exact⟨by rw[HF.o,if_pos hM];rfl,B4.o⟩
  |true=>
   go_wp2;go_ret;exact⟨by rw[HF.o,if_neg (by rw[hM];simp)];rfl,B4.o⟩
theorem vE(name:ByteArray):∀(l:List M.Seg) (aP i:Int),1<=aP->aP<=((l.filter fun s=>M.bJ s.name name).length:Int)->∃j:Nat,j<l.length/\M.at_ name l aP i=i+j
 |[],aP,i,h1,h2=>by simp at h2;omega
 |s::l,aP,i,h1,h2=>by
  rw[List.filter_cons] at h2;unfold M.at_;by_cases he:M.bJ s.name name=true
  ·rw[if_pos he] at h2⊢
   by_cases ho:aP=1
   ·exact⟨0,by simp,by rw[if_pos ho];simp⟩
   ·rw[if_neg ho]
    obtain⟨j,hj,e⟩:=vE name l (aP-1) (i+1) (by omega) (by simp at h2;omega);exact⟨j+1,by simp;omega,by rw[e];push_cast;omega⟩
  ·rw[if_neg he] at h2⊢
   obtain⟨j,hj,e⟩:=vE name l aP (i+1) h1 h2;exact⟨j+1,by simp;omega,by rw[e];push_cast;omega⟩
theorem yN(l:List M.Seg)(name:ByteArray)(aP:Int)(d:M.bR)(h1:1<=aP)(h2:aP<=(M.count ⟨d,l⟩ name:Int)):∃j:Nat,j<l.length/\M.at0 l name aP=(j:Int):=by
 obtain⟨j,hj,e⟩:=vE name l aP 0 h1 h2;exact⟨j,hj,by unfold M.at0;rw[e];omega⟩
theorem DX(l:List M.Seg)(name:ByteArray)(d:M.bR)(f:List (List (List (List ByteArray)))):M.count ⟨d,l++[⟨name,f⟩]⟩ name=M.count ⟨d,l⟩ name+1:=by
 unfold M.count;simp[List.filter_append,M.bJ]
theorem aD.base{B':Nat}(h:aD E T w B S v xs)(hb:B'<=B):aD E T w B' S v xs:=by
 obtain⟨cs,ho,he⟩:=h.row;refine⟨⟨cs,⟨ho.1,ho.2.imp id ?_⟩,he⟩,h.apart,h.there⟩;rintro⟨g,cap,cur,h1,h2,h3⟩;exact⟨g,cap,cur,h1,t_ hb h2,h3⟩
theorem aD.oh{A:Option Addr}{m c:Nat}(h:aD E T w B S (.slice A m c) xs)(hm:xs.length<=1048576):bX A xs.length c/\bn E w (fun b=>S b\/(Value.slice A m c).ownBlock=some b) A xs.length xs:=by
 have r:=h.reads (S':=fun b=>S b\/(Value.slice A m c).ownBlock=some b) (fun b hb=> .inl hb) (fun g hg=> .inr hg) hm;obtain⟨A2,c2,e,h1,h2⟩:=aU.av r;injection e with e1 e2 e3;subst e1 e3;exact⟨h1,h2⟩
theorem jr{ty:TypeId}(h:fn.results=#[.cell p ty,.tmp u])(tmps:Array Value)(P:Program)(w:World):
 (results fn tmps).run P w=
   ((asAddr (tmps.getD p undef)).run P w).andThen fun a w₁=>((loadVar ty a).run P w₁).andThen fun x w₂=> .ok (.tuple #[x,tmps.getD u undef]) w₂:=by
 simp only[results,h];simp[Sem.run_bind,Result.andThen]
theorem eH(hf:fn.results=#[.cell p 27,.tmp u]){W:World}{tmps:Array Value}{v3:Value}{cs:Array Value}(hW:ar W g 27 cs)(hl:cs.size=6)(h2:tmps.getD p undef= .pointer (some ⟨g,0,none⟩))(h3:tmps.getD u undef=v3):
 (results fn tmps).run Tryz.prog W= .ok (.tuple #[.agg cs,v3]) W:=by
 rw[jr hf,h2,h3];have hi:(Tryz.prog.info? 27).map (·.size)=some cs.size:=by rw[hl];kernel_rfl
 have h:=run_loadVar_row (P:=Tryz.prog) W g 27 27 cs (0,0) _ hW Tryz.underlying27 rfl hi;simp only[asAddr,Sem.run_pure,Result.andThen_ok,h]
end
section
open Go Go.RowKit Go.BigFrame Go.Maps Go.WideMaps
theorem PM(fn:M.Fn):(qM fn).1.size=fn.args.length:=by simp[qM]
theorem LS(v:Value)(B mb:Nat)(kl:List Int)(fn:M.Fn)(A:Option Addr)(w:World)(hown:aD yJ 3 w B (fun _=>False) v kl)(hlen:kl.length<=1048576)(hA:(A=none/\(qM fn).1=#[])\/∃b,A=some ⟨b,0,none⟩/\mb<b/\ar w b 3 (qM fn).1)(Tz:fn.args.length<=1048576):
 Calls Tryz.prog 256 #[v,.slice A (qM fn).1.size (qM fn).1.size] w fun e w'=>e= .returned (.bool (decide (kl=fn.args)))/\Below w.heap.size w w':=by
 have hsz:=PM fn;rw[hsz]
 have hv:∃A' c,v= .slice A' kl.length c/\((A'=none/\kl.length=0)\/∃g,A'=some ⟨g,0,none⟩):=by
  obtain⟨cs,ho,he⟩:=hown.row;rcases ho.2 with⟨h1,h2⟩|⟨g,cap,cur,h1,h2,h3⟩
  ·have this:kl.length=0:=by simpa using h2
   exact⟨none,0,by rw[h1,this],.inl ⟨rfl,this⟩⟩
  ·exact⟨_,cap,h1,.inr ⟨g,rfl⟩⟩
 obtain⟨A',c,rfl,hA'⟩:=hv;by_cases hn:kl.length=fn.args.length
 ·by_cases h0:kl.length=0
  ·have e1:kl=[]:=List.eq_nil_of_length_eq_zero h0
   have e2:fn.args=[]:=List.eq_nil_of_length_eq_zero (hn▸h0);rw[e1,e2];refine(Tryz.slices_Equal_int_empty A' A c 0 0 w (by omega)).mono ?_
   rintro e w' ⟨rfl,rfl⟩;exact⟨rfl,Below.refl _ _⟩
  ·rcases hA' with⟨-,h⟩|⟨g,rfl⟩
   ·exact absurd h h0
   rcases hA with⟨-,h⟩|⟨b,rfl,-,hb⟩
   ·rw[h] at hsz
    exact absurd (hn.trans hsz.symm) h0
   refine(Tryz.slices_Equal_int g 0 kl.length c b 0 fn.args.length fn.args.length kl fn.args w (n_) (n_) (by omega) (by omega) ?_ ?_).mono ?_
   ·intro j hj
    obtain⟨g2,cap,x,u,e1,hx,hr,hc,-,-⟩:=hown.in1 rfl hj;injection e1 with e1 e2 e3;injection e1 with e1;injection e1 with e1;subst e1;obtain⟨e4,-⟩:=hr;simp at e4;subst e4;rw[Nat.zero_add,hc,List.getD_eq_getElem?_getD,hx];rfl
   ·intro j hj
    rw[Nat.zero_add,hb.cell j];simp[qM,hj]
   ·rintro e w' ⟨rfl,k,rfl⟩
    exact⟨by rw[List.take_length,List.take_length,Bool.beq_eq_decide_eq],below_drewN (Below.refl _ _) _⟩
 ·have hne:kl≠fn.args:=fun h=>hn (by rw[h])
  refine(Tryz.slices_Equal_int_lens A' A kl.length c fn.args.length fn.args.length w hn).mono ?_
  rintro e w' ⟨rfl,rfl⟩;exact⟨by simp[hne],Below.refl _ _⟩
theorem DY{β:Type}(key:ByteArray):∀(l:List (ByteArray×β)) (v:β),M.look key l=some v->∃p∈l,p.2=v
 |[],v,h=>by simp[M.look] at h
 |(k,u)::l,v,h=>by
  unfold M.look at h;split at h
  ·cases h
   exact⟨_,List.mem_cons_self,rfl⟩
  ·obtain⟨p,hp,e⟩:=DY key l v h
   exact⟨p,List.mem_cons_of_mem _ hp,e⟩
theorem yO{text:ByteArray}{fn:M.Fn}(h:M.look text M.fns=some fn):fn.args.length<=3/\(fn.args=[]->fn.sort≠1/\fn.sort≠2/\fn.table=false):=by
 obtain⟨p,hp,rfl⟩:=DY _ _ _ h;have:∀p∈M.fns,p.2.args.length<=3/\(p.2.args=[]->p.2.sort≠1/\p.2.sort≠2/\p.2.table=false):=by decide
 exact this p hp
theorem Hp(tables:List M.Table)(text:ByteArray):((List.range tables.length).any fun k=>M.bJ ((tables[k]?).elim ByteArray.empty M.Table.name) text)=M.fo (aG tables) text:=by
 rw[Bool.eq_iff_iff];simp only[M.fo,aG,List.any_eq_true,List.mem_range,List.mem_map];constructor
 ·rintro⟨k,hk,h⟩
  refine⟨_,⟨tables[k],List.getElem_mem hk,rfl⟩,?_⟩;rw[e_ hk] at h;simp only[Option.elim] at h;rw[iV] at h⊢;exact h.symm
 ·rintro⟨_,⟨t,ht,rfl⟩,h⟩
  obtain⟨k,hk,rfl⟩:=List.getElem_of_mem ht;refine⟨k,hk,?_⟩;rw[e_ hk];simp only[Option.elim];rw[iV] at h⊢;exact h.symm
theorem vF(tables:List M.Table)(S:Nat->Prop)(tA:Option Addr)(tc V0:Nat)(lA ad:Addr)(n lc m c:Nat)(text:ByteArray)(w:World)(aI:bX tA tables.length tc)(hT:bn cV w S tA tables.length tables)(hS:∀b,S b->b<w.heap.size)(hb:ar w V0 132 #[.slice (some lA) n lc])(hn:0<n)(hl:w.cell? lA=some (.slice (some ad) m c))(hm:0<m)(hx:w.cell? ⟨ad.block,ad.off+2,none⟩=some (.string text))(hlA:lA.block<w.heap.size)(had:ad.block<w.heap.size):
 Calls Tryz.prog 257 #[.slice tA tables.length tc,.func (.func 258) #[] #[.pointer (some ⟨V0,0,none⟩)]] w fun e w'=>e= .returned (.bool (M.fo (aG tables) text))/\Below w.heap.size w w':=by
 refine(Gs cV rfl (fun k=>M.bJ ((tables[k]?).elim ByteArray.empty M.Table.name) text) (fun _ W=>Below w.heap.size w W) 258 #[.pointer (some ⟨V0,0,none⟩)] tA tables.length tc tables S w DO aI (Below.refl _ _) (fun k W hW=>hT.below hW hS) ?_).mono ?_
 ·intro k W x u v hk hW hx2 hr
  obtain⟨A3,c3,e3,hn3,-,-⟩:=cV.inv hr;injection e3 with e3 e4;injection e4 with e4;subst e3 e4;refine(PE x.name _ V0 lA ad n lc m c text W (hb.below hW hb.lt) hn ((hW.cell (p:=lA) hlA).trans hl) hm ((hW.cell (p:=⟨ad.block,ad.off+2,none⟩) had).trans hx) (l_ hlA hW.size) (l_ had hW.size)).mono ?_
  rintro e w' ⟨rfl,h⟩;refine⟨?_,hW.trans (h.mono hW.size)⟩;rw[hx2];rfl
 ·rintro e w' ⟨rfl,k,h⟩
  exact⟨by rw[Hp],h⟩
end
end Go.Proofs.YtpohlhkgbmdieaaGreatDoor
