/- Part 26 of the proof. -/
import Derived.Test.YtpohlhkgbmdieaaGreatDoorW25
set_option linter.unusedVariables false
set_option maxRecDepth 1000000
set_option maxHeartbeats 16000000
namespace Go.Proofs.YtpohlhkgbmdieaaGreatDoor
variable{a:List M.Val}{b:M.Val}{iy:ByteArray}{n:Int}{name s t:ByteArray}{v:M.Val}
section
open Go Go.RowKit Go.BigFrame Go.Maps Go.WideMaps
namespace M
def Ia(n:List Node)(t:Tree):Prop:=n=flat t/\mh t/\jP 20 1 t=true/\n.length<=400
open Classical in
noncomputable def iY(n:List Node):Tree:=if h:∃t,Ia n t then Classical.choose h else .mk ⟨0,0,ByteArray.empty,0,lN⟩ []
theorem yV{n:List Node}(h:Sw n 1=true):Ia n (iY n):=by
 have h2:∃t,Ia n t:=Pz n 1 h;unfold iY;rw[dif_pos h2];exact Classical.choose_spec h2
def Passes(n:List Node)(dests tables:List ByteArray):Prop:=Sw n 1=true/\∃env,bh dests tables 20 [] (iY n)= .ok env
end M
theorem Mz(g mb:Nat)(gb nb:Nat)(dests:List ByteArray)(tables:List M.Table)(S:Nat->Prop)(t:M.Tree)(A:Option Addr)(c:Nat)(w:World)(h1:ar w gb 73 #[.pointer (some ⟨g,0,none⟩)])(h2:ar w nb 22 #[.slice A (M.flat t).length c])(hT:M.jP 20 1 t=true)(bf:M.mh t)(jH:dh w g mb 0 (fun _=>none) dests tables S)(SR:g≠mb)(Be:∀b,S b->b≠g/\b≠mb)(aI:bX A (M.flat t).length c)(hl:bn ENode w S A (M.flat t).length (M.flat t)):
 Calls Tryz.prog 31 #[.pointer (some ⟨gb,0,none⟩),.pointer (some ⟨nb,0,none⟩)] w fun e w'=>ax (fun b=>b=g\/b=mb) w w'/\(((∃env,M.bh dests (aG tables) 20 [] t= .ok env)/\e= .returned (.tuple #[]))\/((¬∃env,M.bh dests (aG tables) 20 [] t= .ok env)/\∃ch,e= .panicked ch/\eR ch)):=by
 have K:=q_ ((vU 20).1 t 0 g mb 0 (fun _=>none) [] dests tables S S A c w hT bf jH (fun name=>rfl) (fun _ _ _=>rfl) SR Be (fun b hb=>⟨jH.there b hb,Be b hb⟩) (by omega) aI hl);have z1:=h1.cell;have z2:=h2.cell;clear h1 h2 hT bf jH aI hl;obtain⟨ok,lu⟩:∃ok:Prop,ok=∃env,M.bh dests (aG tables) 20 [] t= .ok env:=⟨_,rfl⟩
 rw[<-lu];have KK:=q_ lu;clear lu;generalize M.bh dests (aG tables) 20 [] t=r at K KK⊢;go_enter Tryz.func31,Tryz.ntmps31;go_wp2_with fail;refine K.o.mono ?_;rintro e w2 ⟨ha,he⟩;have T:=q_ (show ax (fun b=>b=g\/b=mb) w w2 from⟨ha.os,ha.tape,ha.output,ha.size,fun b hb h=>ha.block b hb (fun e=>h (.inl e)) (fun e=>h (.inr e))⟩);clear z1 z2 ha;cases r with
 |error x=>
  obtain⟨ch,rfl,hf⟩:=he;have HN:=q_ (show¬ok by rw[KK.o];rintro⟨_,h⟩;cases h);go_wp2;exact⟨rfl,T.o,.inr ⟨HN.o,ch,rfl,hf⟩⟩
 |ok env=>
  obtain⟨rfl,-⟩:=he;have HN:=q_ (show ok by rw[KK.o];exact⟨_,rfl⟩);go_wp2;go_end0;exact⟨T.o,.inl ⟨HN.o,rfl⟩⟩
theorem rF(n:List M.Node)(A:Option Addr)(c:Nat)(dests:List ByteArray)(dA:Option Addr)(dc:Nat)(tables:List M.Table)(tA:Option Addr)(tc:Nat)(S:Nat->Prop)(w:World)(hS:∀b,S b->b<w.heap.size)(aI:bX A n.length c)(hl:bn ENode w S A n.length n)(ja':bX dA dests.length dc)(hdl:bn bN w S dA dests.length dests)(tG:bX tA tables.length tc)(El:bn cV w S tA tables.length tables):
 Calls Tryz.prog 10 #[.slice A n.length c,.slice dA dests.length dc,.slice tA tables.length tc] w fun e w'=>Below w.heap.size w w'/\((M.Passes n dests (aG tables)/\e= .returned (.tuple #[.int .i64 0,.int .i64 0]))\/(¬M.Passes n dests (aG tables)/\∃k z,k≠0/\e= .returned (.tuple #[.int .i64 k,.int .i64 z]))):=by
 have Tu:∀(fn:Fn) (first cap:Array Value) (w:World),(Instr.makeFunc fn first cap).run Tryz.prog w= .ok (.func fn first cap) w:=fun _ _ _ _=>rfl;have B1:=q_ ((Below.refl _ w).alloc (n_) (.cells #[.slice A n.length c] 22));have N1:=q_ (ar.new w 22 #[.slice A n.length c]);have s1:(w.alloc (.cells #[.slice A n.length c] 22)).heap.size=w.heap.size+1:=by simp
 have KI:=q_ (fun W (h:Below w.heap.size w W)=>xA n A c S W (fun b hb=>l_ (hS b hb) h.size) aI (hl.below h hS));have HS:=q_ hS;have nk:=q_ aI;have HL:=q_ hl;have HD:=q_ hdl;have Ws:=q_ ja';have HT:=q_ El;have HTO:=q_ tG;clear hS aI hl hdl El ja' tG;obtain⟨ok,lu⟩:∃ok:Prop,ok=M.Passes n dests (aG tables):=⟨_,rfl⟩
 rw[<-lu];have KK:=q_ lu;clear lu;go_enter Tryz.func10,Tryz.ntmps10;go_wp2_with fail;generalize w.alloc (.cells #[.slice A n.length c] 22)=w1 at B1 N1 s1⊢;refine(KI.o _ B1.o).mono ?_
 rintro e w2 ⟨rfl,hb⟩;have B2:=q_ (B1.o.trans (hb.mono B1.o.size));have N2:=q_ (N1.o.below hb (by omega));have hs2:=hb.size;clear hb;cases hI:M.Sw n 1 with
 |false=>
  have HN:=q_ (show¬ok by rw[KK.o];rintro⟨h,_⟩;rw[hI] at h;cases h);clear hI;go_wp2;go_ret2;exact⟨B2.o,.inr ⟨HN.o,81,0,by decide,rfl⟩⟩
 |true=>
  have D5:=M.yV hI;have HN:=q_ (show ok<->∃env,M.bh dests (aG tables) 20 [] (M.iY n)= .ok env by rw[KK.o];exact⟨fun h=>h.2,fun h=>⟨hI,h⟩⟩);clear hI;generalize M.iY n=t at D5 HN;obtain⟨hn,bf,hT,hlen⟩:=D5;subst hn;have Bf:=q_ bf;have HTT:=q_ hT;clear bf hT hlen;have Al:= @run_makeMap Tryz.prog;have M3:=q_ (show Hl (w2.alloc (.map #[] 0)) w2.heap.size (fun _=>none) from(cY.made w2 Tryz.prog 152 lh).congr (fun x=>rfl));have B3:=q_ (B2.o.alloc B2.o.size (.map #[] 0));have N3:=q_ (N2.o.alloc (.map #[] 0));have s3:(w2.alloc (.map #[] 0)).heap.size=w2.heap.size+1:=by simp
  have G4:=q_ (ar.new (w2.alloc (.map #[] 0)) 76 #[.slice dA dests.length dc,.slice tA tables.length tc,.map (some w2.heap.size),.int .i64 0]);rw[s3] at G4;have s4:((w2.alloc (.map #[] 0)).alloc (.cells #[.slice dA dests.length dc,.slice tA tables.length tc,.map (some w2.heap.size),.int .i64 0] 76)).heap.size=w2.heap.size+1+1:=by simp
  have P5:=q_ (ar.new ((w2.alloc (.map #[] 0)).alloc (.cells #[.slice dA dests.length dc,.slice tA tables.length tc,.map (some w2.heap.size),.int .i64 0] 76)) 73 #[.pointer (some ⟨w2.heap.size+1,0,none⟩)]);rw[s4] at P5;have G5:=q_ (G4.o.alloc (.cells #[.pointer (some ⟨w2.heap.size+1,0,none⟩)] 73));have B5:=q_ (show Below w2.heap.size w2 (((w2.alloc (.map #[] 0)).alloc (.cells #[.slice dA dests.length dc,.slice tA tables.length tc,.map (some w2.heap.size),.int .i64 0] 76)).alloc (.cells #[.pointer (some ⟨w2.heap.size+1,0,none⟩)] 73)) from(((Below.refl _ w2).alloc (n_) _).alloc (by omega) _).alloc (by omega) _);have M5:=q_ ((M3.o.below ((Below.refl _ (w2.alloc (.map #[] 0))).alloc (n_) (.cells #[.slice dA dests.length dc,.slice tA tables.length tc,.map (some w2.heap.size),.int .i64 0] 76)) (by omega)).below ((Below.refl _ ((w2.alloc (.map #[] 0)).alloc (.cells #[.slice dA dests.length dc,.slice tA tables.length tc,.map (some w2.heap.size),.int .i64 0] 76))).alloc (n_) (.cells #[.pointer (some ⟨w2.heap.size+1,0,none⟩)] 73)) (by omega));have S2:=q_ (show w.heap.size+1<=w2.heap.size by omega);clear s1 hs2 s3 s4 B3 N3
  go_wp2_with fail;generalize ((w2.alloc (.map #[] 0)).alloc (.cells #[.slice dA dests.length dc,.slice tA tables.length tc,.map (some w2.heap.size),.int .i64 0] 76)).alloc (.cells #[.pointer (some ⟨w2.heap.size+1,0,none⟩)] 73)=w5 at P5 G5 B5 M5⊢;have BB:=q_ (B2.o.trans (B5.o.mono B2.o.size));have N5:=q_ (N2.o.below B5.o N2.o.lt);refine(Eo _ _ w5 ok (fun b=>b=w2.heap.size+1\/b=w2.heap.size) (by rintro q (rfl|rfl);exact G5.o.lt;exact M5.o.lt) (fun W hW=> ?_)).mono ?_
  ·have K:=Mz (w2.heap.size+1) w2.heap.size (w2.heap.size+1+1) w.heap.size dests tables S t A c W (P5.o.below hW P5.o.lt) (N5.o.below hW N5.o.lt) HTT.o Bf.o
    (dh.below ⟨⟨dA,dc,tA,tc,G5.o,Ws.o.le,HTO.o,HD.o.below BB.o HS.o,HT.o.below BB.o HS.o⟩,M5.o,fun b hb=>l_ (HS.o b hb) BB.o.size,by omega⟩ hW) (by omega) (fun b hb=>by have:=HS.o b hb;have:=S2.o;omega) nk.o ((HL.o.below BB.o HS.o).below hW (fun b hb=>l_ (HS.o b hb) BB.o.size))
   rw[HN.o];exact K
  ·rintro e w6 ⟨ht,hr⟩
   have B6:=q_ (BB.o.trans (ht.below BB.o.size (by rintro b hb (rfl|rfl)<;>(have:=S2.o;omega))));clear ht;rcases hr with⟨ho,rfl⟩|⟨ho,k,z,hk,rfl⟩
   ·have HO:=q_ ho
    clear ho;go_wp2;go_ret2;exact⟨B6.o,.inl ⟨HO.o,rfl⟩⟩
   ·have HO:=q_ (show¬ok/\k≠0 from⟨ho,hk⟩)
    clear ho hk;go_wp2;go_ret2;exact⟨B6.o,.inr ⟨HO.o.1,k,z,HO.o.2,rfl⟩⟩
namespace M
def lD(c:Cx)(m:dQ)(scopes:List Scope)(d:Nat)(x:Node)(ks:List Tree):Except Int Val×Nat:=
 match aL c m scopes d (kid ks 0) with
 |(.error e,k)=>(.error e,k)
 |(.ok a,k)=>if x.op=22 then(.ok (bk (!a.truth)),k)
  else if(x.op=13/\a.truth=true)\/(x.op=14/\a.truth=false) then(.ok a,k)
  else match aL c m scopes d (kid ks 1) with
   |(.error e,j)=>(.error e,k+j)
   |(.ok b,j)=>(if x.op=13\/x.op=14 then .ok b else gY x.op a b,k+j)
theorem MA{c:Cx}{m:dQ}{scopes:List Scope}{d:Nat}{x:Node}{ks:List Tree}(h:13<=x.op/\x.op<=22):aL c m scopes (d+1) (.mk x ks)=((lD c m scopes d x ks).1,(lD c m scopes d x ks).2+1):=by
 conv=>lhs;unfold aL
 rw[if_neg (by omega),if_neg (by omega),if_neg (by omega),if_neg (by omega),if_neg (by omega),if_neg (by omega)];unfold lD;cases h0:aL c m scopes d (kid ks 0) with
 |mk r k=>
 cases r with
 |error e=>rfl
 |ok a=>
  simp only;split
  ·rfl
  ·split
   ·rfl
   ·cases h1:aL c m scopes d (kid ks 1) with
    |mk r2 j=>cases r2<;>rfl
theorem UR{c:Cx}{m:dQ}{scopes:List Scope}{d:Nat}{x:Node}{ks:List Tree}(h:x.op=7):aL c m scopes (d+1) (.mk x ks)=(.ok (br x.text),0+1):=by
 conv=>lhs;unfold aL
 rw[if_pos h]
theorem UT{c:Cx}{m:dQ}{scopes:List Scope}{d:Nat}{x:Node}{ks:List Tree}(h:x.op=8):aL c m scopes (d+1) (.mk x ks)=(.ok (fx x.num),0+1):=by
 conv=>lhs;unfold aL
 rw[if_neg (by omega),if_pos h]
theorem UU{c:Cx}{m:dQ}{scopes:List Scope}{d:Nat}{x:Node}{ks:List Tree}(h:x.op=9):aL c m scopes (d+1) (.mk x ks)=(.ok (bk true),0+1):=by
 conv=>lhs;unfold aL
 rw[if_neg (by omega),if_neg (by omega),if_pos (.inl h),h];rfl
theorem QR{c:Cx}{m:dQ}{scopes:List Scope}{d:Nat}{x:Node}{ks:List Tree}(h:x.op=10):aL c m scopes (d+1) (.mk x ks)=(.ok (bk false),0+1):=by
 conv=>lhs;unfold aL
 rw[if_neg (by omega),if_neg (by omega),if_pos (.inr h),h];rfl
theorem QS{c:Cx}{m:dQ}{scopes:List Scope}{d:Nat}{x:Node}{ks:List Tree}(h:x.op=11):aL c m scopes (d+1) (.mk x ks)=(short (get m x.path),0+1):=by
 conv=>lhs;unfold aL
 rw[if_neg (by omega),if_neg (by omega),if_neg (by omega),if_pos h]
theorem QT{c:Cx}{m:dQ}{scopes:List Scope}{d:Nat}{x:Node}{ks:List Tree}(h:x.op=12):aL c m scopes (d+1) (.mk x ks)=(.ok (named scopes x.text),0+1):=by
 conv=>lhs;unfold aL
 rw[if_neg (by omega),if_neg (by omega),if_neg (by omega),if_neg (by omega),if_pos h]
theorem j1{F u:Nat}{r:Except Int Val}(h:u<F):cut F u (r,0+1)=(r,u+1):=bZ (r:=(r,0+1)) (by show u+(0+1)<=F;omega)
section
variable {c:Cx} {m:dQ} {scopes:List Scope} {d:Nat} {x:Node} {ks:List Tree} {F U u2 u3:Nat} {e:Int} {a b:Val}
theorem QU(k:Nat)(r:Except Int Val)(h:aL c m scopes d (kid ks 0)=(r,k)):k<=(lD c m scopes d x ks).2:=by
 unfold lD;rw[h];cases r with
 |error e=>exact n_
 |ok a=>
  simp only;split
  ·exact n_
  ·split
   ·exact n_
   ·cases aL c m scopes d (kid ks 1) with
    |mk r2 j=>cases r2<;>simp
theorem fl{r:Except Int Val×Nat}{y:Except Int Val}(h:cut F U r=(y,u2)):(∃k,r=(y,k)/\u2=U+k/\U+k<=F)\/(F<U+r.2/\y= .error 83/\u2=F):=by
 obtain⟨r,k⟩:=r;by_cases hq:U+k<=F
 ·rw[bZ hq] at h
  injection h with h1 h2;exact .inl ⟨k,by rw[<-h1],h2.symm,hq⟩
 ·rw[eQ hq] at h
  injection h with h1 h2;exact .inr ⟨by simpa using hq,h1.symm,h2.symm⟩
theorem Ep(h:cut F U (aL c m scopes d (kid ks 0))=(.error e,u2)):cut F U (lD c m scopes d x ks)=(.error e,u2):=by
 rcases fl h with⟨k,hr,hu,hle⟩|⟨Z8,he,hu⟩
 ·have hb:lD c m scopes d x ks=(.error e,k):=by unfold lD;rw[hr]
  rw[hb,bZ hle,hu]
 ·have:=QU (x:=x) _ _ (show aL c m scopes d (kid ks 0)=((aL c m scopes d (kid ks 0)).1,(aL c m scopes d (kid ks 0)).2) from rfl)
  rw[eQ (by omega),he,hu]
theorem Ib(h:cut F U (aL c m scopes d (kid ks 0))=(.ok a,u2))(hx:x.op=22):cut F U (lD c m scopes d x ks)=(.ok (bk (!a.truth)),u2):=by
 rcases fl h with⟨k,hr,hu,hle⟩|⟨Z8,he,hu⟩
 ·have hb:lD c m scopes d x ks=(.ok (bk (!a.truth)),k):=by unfold lD;rw[hr];simp only;rw[if_pos hx]
  rw[hb,bZ hle,hu]
 ·cases he
theorem yX(h:cut F U (aL c m scopes d (kid ks 0))=(.ok a,u2))(hx:(x.op=13/\a.truth=true)\/(x.op=14/\a.truth=false)):cut F U (lD c m scopes d x ks)=(.ok a,u2):=by
 rcases fl h with⟨k,hr,hu,hle⟩|⟨Z8,he,hu⟩
 ·have hb:lD c m scopes d x ks=(.ok a,k):=by unfold lD;rw[hr];simp only;rw[if_neg (by omega),if_pos hx]
  rw[hb,bZ hle,hu]
 ·cases he
def Er(op:Int)(a:Val):Except Int Val->Except Int Val
 | .error e=> .error e
 | .ok b=>if op=13\/op=14 then .ok b else gY op a b
theorem MC{y:Except Int Val}(h:cut F U (aL c m scopes d (kid ks 0))=(.ok a,u2))(hx:x.op≠22)(hn:¬((x.op=13/\a.truth=true)\/(x.op=14/\a.truth=false)))(h2:cut F u2 (aL c m scopes d (kid ks 1))=(y,u3)):
 cut F U (lD c m scopes d x ks)=(Er x.op a y,u3):=by
 rcases fl h with⟨k,hr,hu,hle⟩|⟨Z8,he,hu⟩
 ·have hb:lD c m scopes d x ks=(match aL c m scopes d (kid ks 1) with|(.error e,j)=>(.error e,k+j)|(.ok b,j)=>(if x.op=13\/x.op=14 then .ok b else gY x.op a b,k+j)):=by unfold lD;rw[hr];simp only;rw[if_neg hx,if_neg hn]
  rcases fl h2 with⟨j,hr2,nv,hle2⟩|⟨Z8,he,nv⟩
  ·rw[hb,hr2]
   cases y with
   |error e=>simp only[Er];rw[bZ (by show U+(k+j)<=F;omega)];simp only[Prod.mk.injEq,true_and];omega
   |ok b=>simp only[Er];rw[bZ (by show U+(k+j)<=F;omega)];simp only[Prod.mk.injEq,true_and];omega
  ·subst he
   rw[hb];cases h1:aL c m scopes d (kid ks 1) with
   |mk r2 j=>
    rw[h1] at Z8;simp only at Z8;cases r2 with
    |error e=>simp only[Er];rw[eQ (by show¬U+(k+j)<=F;omega),nv]
    |ok b=>simp only[Er];rw[eQ (by show¬U+(k+j)<=F;omega),nv]
 ·cases he
end
end M
theorem Ic{tn:List ByteArray}{env:List (ByteArray×Int)}{d:Nat}{aN:Bool}{x:M.Node}{ks:List M.Tree}{k:Int}(h:x.op≠23)(hk:M.bG tn env (d+1) aN (.mk x ks)= .ok k):∀(j:Nat) (t:M.Tree),ks[j]? =some t->∃k,M.bG tn env d false t= .ok k:=by
 unfold M.bG at hk;rw[if_neg h] at hk;split at hk
 ·cases hk
 ·next kinds Bd=>exact fun j t hj=>oO _ _ _ Bd j t hj
theorem ax.tr{g:Nat}{w w' w'':World}(h:ax (fun b=>b=g) w w')(h2:aW g w' w''):aW g w w'':=aW.tr h h2
theorem UW:Qc 0:=fun t _ _ _ _ _ _ _ _ _ _ _ _ _ _ _ _ h=>by simp[M.jP] at h
theorem MD(d:Nat)(hex:Qc d)(hca:jaR d)(JE:Hu d):Qc (d+1):=by
 intro t g Mu S N c st p bs F u env aN kq A cap w hT bf Ef hp hgb hF hu hN aI hl;cases t with
 |mk x ks=>
 have hm:=aI.le;obtain⟨dM,fj,fk⟩:=cU hT;have rD:=rC dM;have ep:=gT fj;have kf:M.flat (.mk x ks)=x::M.bB ks:=by unfold M.flat;rfl
 have Bf:=q_ bf;have nk:=q_ aI;have HL:=q_ hl;have HT:=q_ hT;have HP:=q_ hp;have HG:=q_ (show g<w.heap.size from hgb.lt);have Ma:=q_ hgb;have HN:=q_ hN;have QI:=q_ rD;have Eg:=q_ Ef;have HCA:=q_ hca;have HEX:=q_ hex;have HVS:=q_ JE;have oQ:=q_ (show M.cd x.op<=(ks.length:Int) by rw[<-fk];exact ep);have hl0:=hl;rw[kf] at hl0;obtain⟨ad,rfl,yx,kE,e0,he⟩:=dy hl0;have yF:x.text.size<=1048576:=kE.2.2.1;have UC:=q_ kE;have sT:=M.eC (.mk x ks)
 have UD:ks.length<=1048576:=by
  have h1:=M.dx ks;have h2:(M.flat (.mk x ks)).length=(M.bB ks).length+1:=by rw[kf];rfl
  omega
 have iX:=q_ (show M.pz ks by unfold M.mh at bf;exact bf.2);have UE:=q_ (show ad.block<w.heap.size/\ad.block≠g from hN _ yx);have CE:=q_ (And.intro e0 he);generalize Jo:(M.flat (.mk x ks)).length=m at*;have RB1:=q_ (ar.new w 33 #[.int .i64 0,.string ⟨#[]⟩,.int .i64 0,.bool false]);have B1:=q_ ((Below.refl _ w).alloc (n_) (.cells #[.int .i64 0,.string ⟨#[]⟩,.int .i64 0,.bool false] 33));have GB1:=q_ (show ar (w.alloc (.cells #[.int .i64 0,.string ⟨#[]⟩,.int .i64 0,.bool false] 33)) g 64 #[.int .u8 (p.d.f.toNat:Int),.int .u8 (p.d.c.toNat:Int),.int .u8 (p.d.r.toNat:Int),.int .u8 (p.d.e.toNat:Int),.int .u8 (p.d.s.toNat:Int),p.v,p.tv,.string p.now,.int .i64 (F:Nat),.int .i64 (u:Nat),p.rv,.bool p.stop,p.sv] from hgb.alloc _);clear hl0 hl hN hgb hp bf aI hT kf dM fj fk Ef he e0 kE rD ep hca hex JE;go_enter Tryz.func120,Tryz.ntmps120;go_wp2_with fail;generalize w.alloc (.cells #[.int .i64 0,.string ⟨#[]⟩,.int .i64 0,.bool false] 33)=w1 at RB1 B1 GB1⊢;refine(vr w1 g p F u hF hu GB1.o).mono ?_
 rintro e w2 (⟨SU,rfl,Qu,jba⟩|⟨SU,rfl,hb⟩);rotate_left
 ·have HFU:=q_ SU
  have B2:=q_ (B1.o.trans (hb.mono B1.o.size));have vO:=q_ (show M.cut F u (M.aL c st.m st.scopes (d+1) (.mk x ks))=(.error 83,F) from M.eQ (by have:=Ls c st.m st.scopes d x ks;omega));clear hb SU;unfold dt;go_wp2;exact⟨rfl,ax.of B2.o,by rw[vO.o];have:=Ma.o.below B2.o Ma.o.lt;rw[HFU.o] at this;exact this,by rw[vO.o];rfl⟩
 have Bn:=q_ (show aW g w w2 from(show aW g w w1 from ax.of B1.o).tr Qu);have rG:=q_ jba;have FI:=q_ (Qu.blk RB1.o (by have:=HG.o;omega));have HU:=q_ SU;have P2:=q_ (HP.o.only Bn.o);have K2:=fun(q:Addr) (h:q.block=ad.block)=>Bn.o.cell (p:=q) (by rw[h];exact UE.o.1) (by rw[h];exact UE.o.2);have e0:=(K2 ad rfl).trans CE.o.1;have e1:=(K2 ⟨ad.block,ad.off+1,none⟩ rfl).trans (CE.o.2 0 _ rfl);have e2:=(K2 ⟨ad.block,ad.off+2,none⟩ rfl).trans (CE.o.2 1 _ rfl);have e3:=(K2 ⟨ad.block,ad.off+3,none⟩ rfl).trans (CE.o.2 2 _ rfl);have e4:=(K2 ⟨ad.block,ad.off+4,none⟩ rfl).trans (CE.o.2 3 _ rfl);have e5:=(K2 ⟨ad.block,ad.off+5,none⟩ rfl).trans (CE.o.2 4 _ rfl);have e6:=(K2 ⟨ad.block,ad.off+6,none⟩ rfl).trans (CE.o.2 5 _ rfl);have e7:=(K2 ⟨ad.block,ad.off+7,none⟩ rfl).trans (CE.o.2 6 _ rfl);have e8:=(K2 ⟨ad.block,ad.off+8,none⟩ rfl).trans (CE.o.2 7 _ rfl);have e9:=(K2 ⟨ad.block,ad.off+9,none⟩ rfl).trans (CE.o.2 8 _ rfl)
 have XB:=q_ (ar.new w2 129 #[.int .i64 x.op,.int .i64 x.n,.string x.text,.int .i64 x.num,.string x.path.aN,.int .i64 x.path.aP,.int .i64 x.path.aR,.int .i64 x.path.rep,.int .i64 x.path.comp,.int .i64 x.path.sub]);have hs2:=Qu.size;clear Qu jba K2
 have mz:x.op=7\/x.op=8\/x.op=9\/x.op=10\/x.op=11\/x.op=12\/x.op=23\/(x.op=22\/x.op=13\/x.op=14\/(15<=x.op/\x.op<=21)):=by
  have:=QI.o;omega
 have B3:=q_ ((Below.refl _ w2).alloc (n_) (.cells #[.int .i64 x.op,.int .i64 x.n,.string x.text,.int .i64 x.num,.string x.path.aN,.int .i64 x.path.aP,.int .i64 x.path.aR,.int .i64 x.path.rep,.int .i64 x.path.comp,.int .i64 x.path.sub] 129));go_upto_region 3 with fail;clear e0 e1 e2 e3 e4 e5 e6 e7 e8 e9;generalize w2.alloc (.cells #[.int .i64 x.op,.int .i64 x.n,.string x.text,.int .i64 x.num,.string x.path.aN,.int .i64 x.path.aP,.int .i64 x.path.aR,.int .i64 x.path.rep,.int .i64 x.path.comp,.int .i64 x.path.sub] 129)=w3 at XB B3⊢;have z3:=XB.o.cell;rcases mz with hop|hop|hop|hop|hop|hop|hop|hop
 ·have LAW:=q_ (show M.cut F u (M.aL c st.m st.scopes (d+1) (.mk x ks))=(.ok (M.br x.text),u+1) by rw[M.UR hop];exact M.j1 HU.o)
  go_wp2_with fail
  skip
  refine(cR _ _).mono ?_
  rintro e w4 ⟨rfl,hb⟩;have B4:=q_ (B3.o.trans (hb.mono B3.o.size));have Ie:=q_ (FI.o.below B4.o FI.o.lt);have xJ:=q_ (rG.o.below B4.o rG.o.lt);have Cr:=q_ (Bn.o.on B4.o);clear hb z3;go_wp2_with (refine aq rfl (.tmp 4) (.tmp 21) rfl w.heap.size (M.br x.text) (by rfl) (by rfl) Ie.o rfl ?_;intro w9 k9 g9;have K9:=q_ k9;have G9:=q_ g9;clear k9 g9)
  (try simp only[Exit.inBlock,Exit.then]);exact bodyPost_ret (aT rfl K9.o rfl) rfl ⟨Cr.o.grown (fun h=>by omega) G9.o,by rw[LAW.o];exact xJ.o.aK G9.o (by have:=HG.o;omega),by rw[LAW.o];rfl⟩
 ·have LAW:=q_ (show M.cut F u (M.aL c st.m st.scopes (d+1) (.mk x ks))=(.ok (M.fx x.num),u+1) by rw[M.UT hop];exact M.j1 HU.o)
  go_wp2_with fail
  skip
  refine(iG _ _).mono ?_
  rintro e w4 ⟨rfl,hb⟩;have B4:=q_ (B3.o.trans (hb.mono B3.o.size));have Ie:=q_ (FI.o.below B4.o FI.o.lt);have xJ:=q_ (rG.o.below B4.o rG.o.lt);have Cr:=q_ (Bn.o.on B4.o);clear hb z3;go_wp2_with (refine aq rfl (.tmp 4) (.tmp 26) rfl w.heap.size (M.fx x.num) (by rfl) (by rfl) Ie.o rfl ?_;intro w9 k9 g9;have K9:=q_ k9;have G9:=q_ g9;clear k9 g9)
  (try simp only[Exit.inBlock,Exit.then]);exact bodyPost_ret (aT rfl K9.o rfl) rfl ⟨Cr.o.grown (fun h=>by omega) G9.o,by rw[LAW.o];exact xJ.o.aK G9.o (by have:=HG.o;omega),by rw[LAW.o];rfl⟩
 ·have LAW:=q_ (show M.cut F u (M.aL c st.m st.scopes (d+1) (.mk x ks))=(.ok (M.bk true),u+1) by rw[M.UU hop];exact M.j1 HU.o)
  go_wp2_with fail
  skip
  refine(cm _ _).mono ?_
  rintro e w4 ⟨rfl,hb⟩;have B4:=q_ (B3.o.trans (hb.mono B3.o.size));have Ie:=q_ (FI.o.below B4.o FI.o.lt);have xJ:=q_ (rG.o.below B4.o rG.o.lt);have Cr:=q_ (Bn.o.on B4.o);clear hb z3;go_wp2_with (refine aq rfl (.tmp 4) (.tmp 33) rfl w.heap.size (M.bk true) (by rfl) (by rfl) Ie.o rfl ?_;intro w9 k9 g9;have K9:=q_ k9;have G9:=q_ g9;clear k9 g9)
  (try simp only[Exit.inBlock,Exit.then]);exact bodyPost_ret (aT rfl K9.o rfl) rfl ⟨Cr.o.grown (fun h=>by omega) G9.o,by rw[LAW.o];exact xJ.o.aK G9.o (by have:=HG.o;omega),by rw[LAW.o];rfl⟩
 ·have LAW:=q_ (show M.cut F u (M.aL c st.m st.scopes (d+1) (.mk x ks))=(.ok (M.bk false),u+1) by rw[M.QR hop];exact M.j1 HU.o)
  go_wp2_with fail
  skip
  refine(cm _ _).mono ?_
  rintro e w4 ⟨rfl,hb⟩;have B4:=q_ (B3.o.trans (hb.mono B3.o.size));have Ie:=q_ (FI.o.below B4.o FI.o.lt);have xJ:=q_ (rG.o.below B4.o rG.o.lt);have Cr:=q_ (Bn.o.on B4.o);clear hb z3;go_wp2_with (refine aq rfl (.tmp 4) (.tmp 33) rfl w.heap.size (M.bk false) (by rfl) (by rfl) Ie.o rfl ?_;intro w9 k9 g9;have K9:=q_ k9;have G9:=q_ g9;clear k9 g9)
  (try simp only[Exit.inBlock,Exit.then]);exact bodyPost_ret (aT rfl K9.o rfl) rfl ⟨Cr.o.grown (fun h=>by omega) G9.o,by rw[LAW.o];exact xJ.o.aK G9.o (by have:=HG.o;omega),by rw[LAW.o];rfl⟩
 ·have LAW:=q_ (show M.cut F u (M.aL c st.m st.scopes (d+1) (.mk x ks))=(M.short (M.get st.m x.path),u+1) by rw[M.QS hop];exact M.j1 HU.o)
  obtain⟨AM,nm,hv,Es,Wt⟩:=P2.o.msg;have hd:=P2.o.d;have HV:=q_ hv;have QV:=q_ Es;have Wu:=q_ Wt;have HS:=q_ (fun b (h:S b)=>(P2.o.far b h).1);have Ut:=q_ (show(⟨p.d,st.m.aH⟩:M.dQ)=st.m by rw[hd]);have GV:=q_ rG.o;rw[hv] at GV;clear hv Es Wt hd;go_wp2_with fail
  skip
  have RB3:=q_ (FI.o.below B3.o FI.o.lt);have Wv:=q_ (rG.o.below B3.o rG.o.lt);have GV3:=q_ (GV.o.below B3.o GV.o.lt);have OG3:=q_ (Bn.o.on B3.o);have KG:=q_ (fun(W:World) (h:Below w2.heap.size w2 W)=>Az p.d AM nm st.m.aH x.path S W (fun b hb=>l_ (HS.o b hb) h.size) QV.o (Wu.o.below h HS.o) UC.o.2.2.2.2);rw[Ut.o] at KG;clear z3;by_cases h4:4096<(M.get st.m x.path).size
  ·have cu:=q_ (show M.cut F u (M.aL c st.m st.scopes (d+1) (.mk x ks))=(.error 2,u+1) by rw[LAW.o];unfold M.short;rw[if_pos h4])
   have KS:=q_ (fun(W:World)=>show Calls Tryz.prog 163 #[.string (M.get st.m x.path)] W fun e w'=>e=dt 2/\Below W.heap.size W w' from by
    have:=ra (M.get st.m x.path) W;unfold M.short at this;rw[if_pos h4] at this;exact this)
   clear h4;refine ak (KP:=fun ch w5=>dt 2= .panicked ch/\Below w3.heap.size w3 w5) 8 [] (cN w3 7) (by kernel_rfl) (by kernel_rfl) (cN.start w3 7) (fun ch a2 w5 hd hk=>⟨hd,OG3.o.on hk.2,by rw[cu.o];exact Wv.o.below hk.2 Wv.o.lt,by rw[cu.o];exact hk.1.symm⟩) ?_
   iterate 7
    apply ae rfl
    ·intro L vs wx hI hR hL K hK
     first
     |have c0:=(GV3.o.below hI.below GV3.o.lt).cell
      go_simp;exact hK _ (hI.pure (by decide))
     |have c0:=(XB.o.below hI.below XB.o.lt).cell
      go_simp;exact hK _ (hI.pure (by decide))
     |go_simp
      exact(KG.o _ (B3.o.trans (hI.below.mono B3.o.size))).mono fun e w' ⟨h1,h2⟩=> .inl ⟨_,h1,hK _ (hI.on h2 (by decide))⟩
    intro KK af;go_simp;refine af _ ?_;clear af KK
   refine ae (v:=undef) rfl ?_ ?_
   ·intro L vs wx hI hR hL K hK
    go_simp;exact(KS.o wx).mono fun e w' ⟨h1,h2⟩=> .inr ⟨_,h1,rfl,hI.below.trans (h2.mono hI.below.size)⟩
   intro KK af;go_simp;refine af _ ?_;clear af KK;refine aw ?_;intro vs w5 hI;exact absurd hI.no (by decide)
  ·have cu:=q_ (show M.cut F u (M.aL c st.m st.scopes (d+1) (.mk x ks))=(.ok (M.br (M.get st.m x.path)),u+1) by rw[LAW.o];unfold M.short;rw[if_neg h4])
   have KS:=q_ (fun(W:World)=>show Calls Tryz.prog 163 #[.string (M.get st.m x.path)] W fun e w'=>e= .returned (eh (M.br (M.get st.m x.path)))/\Below W.heap.size W w' from by
    have:=ra (M.get st.m x.path) W;unfold M.short at this;rw[if_neg h4] at this;exact this)
   clear h4;refine ak (KP:=fun _ _=>False) 8 [] (fL w3) (by kernel_rfl) (by kernel_rfl) (fL.start w3) (fun ch a2 w5 hd hk=>hk.elim) ?_
   iterate 8
    apply ae rfl
    ·intro L vs wx hI hR hL K hK
     first
     |have c0:=(GV3.o.below hI GV3.o.lt).cell
      go_simp;exact hK _ hI
     |have c0:=(XB.o.below hI XB.o.lt).cell
      go_simp;exact hK _ hI
     |go_simp
      exact(KG.o _ (B3.o.trans (hI.mono B3.o.size))).mono fun e w' ⟨h1,h2⟩=>⟨_,h1,hK _ (hI.trans (h2.mono hI.size))⟩
     |go_simp
      exact(KS.o wx).mono fun e w' ⟨h1,h2⟩=>⟨_,h1,hK _ (hI.trans (h2.mono hI.size))⟩
    intro KK af;go_simp;refine af _ ?_;clear af KK
   refine aw ?_;intro vs w4 hI;have Ie:=q_ (RB3.o.below hI RB3.o.lt);have xJ:=q_ (Wv.o.below hI Wv.o.lt);have Cr:=q_ (OG3.o.on hI);clear hI;intro KK af;have kg:=fun a w h=>af .normal a w h;simp only[List.drop_succ_cons];refine aq rfl (.tmp 4) (.tmp 43) rfl w.heap.size (M.br (M.get st.m x.path)) (by rfl) (by rfl) Ie.o rfl ?_;intro w9 k9 g9;have K9:=q_ k9;have G9:=q_ g9;clear k9 g9;go_wp2_with fail
   (try simp only[Exit.inBlock,Exit.then]);exact bodyPost_ret (aT rfl K9.o rfl) rfl ⟨Cr.o.grown (fun h=>by omega) G9.o,by rw[cu.o];exact xJ.o.aK G9.o (by have:=HG.o;omega),by rw[cu.o];rfl⟩
 ·have LAW:=q_ (show M.cut F u (M.aL c st.m st.scopes (d+1) (.mk x ks))=(.ok (M.named st.scopes x.text),u+1) by rw[M.QT hop];exact M.j1 HU.o)
  go_wp2_with fail
  skip
  refine(Lv g Mu S c st p bs F (u+1) x.text _ yF (rG.o.below B3.o rG.o.lt) (P2.o.below B3.o)).mono ?_
  rintro e w4 ⟨rfl,hb⟩;have B4:=q_ (B3.o.trans (hb.mono B3.o.size));have Ie:=q_ (FI.o.below B4.o FI.o.lt);have xJ:=q_ (rG.o.below B4.o rG.o.lt);have Cr:=q_ (Bn.o.on B4.o);clear hb z3;go_wp2_with (refine aq rfl (.tmp 4) (.tmp 49) rfl w.heap.size (M.named st.scopes x.text) (by rfl) (by rfl) Ie.o rfl ?_;intro w9 k9 g9;have K9:=q_ k9;have G9:=q_ g9;clear k9 g9)
  (try simp only[Exit.inBlock,Exit.then]);exact bodyPost_ret (aT rfl K9.o rfl) rfl ⟨Cr.o.grown (fun h=>by omega) G9.o,by rw[LAW.o];exact xJ.o.aK G9.o (by have:=HG.o;omega),by rw[LAW.o];rfl⟩
 ·have mq:=q_ hop
  have xK:=q_ (show M.cut F u (M.aL c st.m st.scopes (d+1) (.mk x ks))=M.cut F (u+1) (M.jo c st.m st.scopes d x ks) by rw[M.Hc hop];exact M.pR HU.o);have KC:=q_ (fun(W:World) (h:Below w2.heap.size w2 W)=>HCA.o x ks g Mu S N c st p bs F (u+1) env aN kq (some ad) cap W HT.o Bf.o mq.o Eg.o (P2.o.below h) (rG.o.below h rG.o.lt) hF HU.o (fun b hb=>⟨l_ (HN.o b hb).1 (t_ Bn.o.size h.size),(HN.o b hb).2⟩) (by rw[Jo];exact nk.o) ((Bn.o.nu (by rw[Jo];exact HL.o) HN.o).below h (fun b hb=>l_ (HN.o b hb).1 Bn.o.size)));rw[Jo] at KC;generalize M.cut F (u+1) (M.jo c st.m st.scopes d x ks)=r at*;obtain⟨r,u2⟩:=r;go_wp2_with fail
  skip
  clear z3;refine(KC.o _ B3.o).mono ?_
  rintro e w4 ⟨h1,h2,h3⟩;have Cr:=q_ (Bn.o.tr ((show aW g w2 _ from ax.of B3.o).tr h1));have Ie:=q_ (h1.blk (FI.o.below B3.o FI.o.lt) (by have:=HG.o;omega));have xJ:=q_ h2;have HE:=q_ h3;clear h1 h2 h3;cases r with
  |error er=>
   obtain rfl:=HE.o;unfold dD dt;go_wp2;exact⟨rfl,Cr.o,by rw[xK.o];exact xJ.o,by rw[xK.o];rfl⟩
  |ok v=>
   obtain rfl:=HE.o;unfold dD;go_wp2_with (refine aq rfl (.tmp 4) (.tmp 54) rfl w.heap.size (v) (by rfl) (by rfl) Ie.o rfl ?_;intro w9 k9 g9;have K9:=q_ k9;have G9:=q_ g9;clear k9 g9)
   (try simp only[Exit.inBlock,Exit.then]);exact bodyPost_ret (aT rfl K9.o rfl) rfl ⟨Cr.o.grown (fun h=>by omega) G9.o,by rw[xK.o];exact xJ.o.aK G9.o (by have:=HG.o;omega),by rw[xK.o];rfl⟩
 have Yt:=q_ (show 13<=x.op/\x.op<=22 by omega)
 obtain⟨t0,tl,jq⟩:∃t0 tl,ks=t0::tl:=by
  have hl:=oQ.o
  have GD:1<=M.cd x.op:=by
   have:=Yt.o;unfold M.cd;rw[if_neg (by omega)];by_cases h22:x.op=22
   ·rw[if_pos (by omega)];decide
   ·rw[if_neg (by omega),if_pos (by unfold M.lQ;simp;omega)];decide
  cases hq:ks with
  |nil=>rw[hq] at hl;simp at hl;omega
  |cons a b=>exact⟨a,b,rfl⟩
 rcases hop with hop|hop|hop|hop
 all_goals
  have mq:=q_ hop;have xK:=q_ (show M.cut F u (M.aL c st.m st.scopes (d+1) (.mk x ks))=M.cut F (u+1) (M.lD c st.m st.scopes d x ks) by rw[M.MA Yt.o];exact M.pR HU.o);have om:=Ic (show x.op≠23 by omega) Eg.o;have hw:∀i,M.wanted x i=3:=fun i=>by unfold M.wanted;rw[if_neg (by omega),if_neg (by omega)]
  obtain⟨kk0,r5⟩:=om 0 t0 (by rw[jq];rfl);have xj:=cF (i:=0) (t:=t0) HT.o (by rw[jq];rfl);rw[hw] at xj;have Nt:=M.cw (k:=0) iX.o (show ks[0]? =some t0 by rw[jq];rfl);have jbb:=q_ (show M.kid ks 0=t0 by rw[jq];rfl);have SV:=q_ (And.intro xj (And.intro Nt r5));have hl2:1<=ks.length:=by rw[jq];simp
  have HKS:=q_ jq;have HKI:=q_ om;clear xj Nt r5 om hw jq
  try have n7:(x.op==7)=false:=by simp;omega
  try have n8:(x.op==8)=false:=by simp;omega
  try have n9:(x.op==9)=false:=by simp;omega
  try have n10:(x.op==10)=false:=by simp;omega
  try have n11:(x.op==11)=false:=by simp;omega
  try have n12:(x.op==12)=false:=by simp;omega
  try have n23:(x.op==23)=false:=by simp;omega
  try have n22:(x.op==22)=false:=by simp;omega
  try have n13:(x.op==13)=false:=by simp;omega
  try have n14:(x.op==14)=false:=by simp;omega
  have KP:=q_ (fh x ks Bf.o (some ad) m cap N w3 (fun b h=>l_ (HN.o b h).1 (t_ Bn.o.size B3.o.size)) nk.o ((Bn.o.nu HL.o HN.o).below B3.o (fun b hb=>l_ (HN.o b hb).1 Bn.o.size)));go_wp2_with fail;refine KP.o.mono ?_;rintro e w4 ⟨A1,c1,A2,c2,rfl,kY,hk2,dF,jck,hb4⟩;have PL:=q_ dF;have OKP:=q_ kY;have SW:=q_ (show∀b,(N b\/New w3 w4 b)->b<w4.heap.size/\b≠g from fun b h=>h.elim (fun h=>⟨l_ (HN.o b h).1 (t_ Bn.o.size (t_ B3.o.size hb4.size)),(HN.o b h).2⟩) (fun h=>⟨h.2,by have:=HG.o;have:=h.1;have:=Bn.o.size;have:=B3.o.size;omega⟩));have B4:=q_ (B3.o.trans (hb4.mono B3.o.size));have Ie:=q_ (FI.o.below B4.o FI.o.lt);have xJ:=q_ (rG.o.below B4.o rG.o.lt);have Cr:=q_ (Bn.o.on B4.o);have Z9:=q_ (XB.o.below hb4 XB.o.lt);have P4:=q_ (HP.o.only Cr.o);have yb:=hb4.size;have Z':=q_ (show w2.heap.size≠g/\w.heap.size<=w2.heap.size by have:=HG.o;have:=Bn.o.size;omega);clear kY hk2 dF jck hb4 KP z3;have dC:ks.length<=c1:=by simpa using OKP.o.2.1
  obtain⟨a1,y1,u1,rfl,ib,fI,hr1,jf⟩:=PL.o.in1 (k:=0) rfl (by omega);rw[iU] at jf;rw[HKS.o] at fI;simp at fI;subst fI;obtain⟨At,ct,rfl,fE,di⟩:=aU.av (E:=ENode) hr1;have EX0:=q_ (HEX.o t0 g Mu S (fun b=>N b\/New w3 w4 b) c st p bs F (u+1) env false kk0 At ct w4 SV.o.1 SV.o.2.1 SV.o.2.2 P4.o xJ.o hF HU.o SW.o fE di);have Bo:=q_ (SW.o _ ib);clear hr1 di fE;have z4:=Z9.o.cell;rcases kG:M.cut F (u+1) (M.aL c st.m st.scopes d t0) with⟨res,u2⟩
  rw[kG] at EX0;rw[<-jbb.o] at kG;have FJ:=q_ kG;clear kG;rcases res with er|v0
  ·skip
   have jbc:=q_ (xK.o.trans (M.Ep FJ.o));go_wp2_with fail;refine EX0.o.mono ?_;rintro e w5 ⟨h1,h2,h3⟩;have OG5:=q_ (Cr.o.tr h1);have oT:=q_ h2;obtain rfl:=h3;clear h1 h2 z4;unfold dD dt;go_wp2;exact⟨rfl,OG5.o,by rw[jbc.o];exact oT.o,by rw[jbc.o];rfl⟩
  have HV0:=q_ (show iF v0 by
   rcases M.fl FJ.o with⟨k,hr,_,_⟩|⟨_,he,_⟩
   ·rw[jbb.o] at hr
    exact HVS.o t0 c st v0 k SV.o.1 HP.o.vals HP.o.jU HP.o.fT HP.o.aH hr
   ·cases he)
  go_wp2_with fail;refine EX0.o.mono ?_;rintro e w5 ⟨h1,h2,h3⟩;have OG5:=q_ (Cr.o.tr h1);have oT:=q_ h2;obtain rfl:=h3;have RB5:=q_ (h1.blk Ie.o (by have:=HG.o;omega));have Ww:=q_ (h1.blk Z9.o Z'.o.1);have PL5:=q_ (h1.nu PL.o SW.o);have SW5:=q_ (fun b (h:N b\/New w3 w4 b)=>And.intro (l_ (SW.o b h).1 h1.size) (SW.o b h).2);have B6:=q_ ((Below.refl _ w5).alloc (n_) (.cells #[.int .i64 v0.kind,.string v0.text,.int .i64 v0.num,.bool v0.truth] 33));have VB:=q_ (ar.new w5 33 #[.int .i64 v0.kind,.string v0.text,.int .i64 v0.num,.bool v0.truth]);clear h1 h2 z4;unfold dD eh;go_upto_region 19 with fail;generalize w5.alloc (.cells #[.int .i64 v0.kind,.string v0.text,.int .i64 v0.num,.bool v0.truth] 33)=w6 at B6 VB⊢;have RB6:=q_ (RB5.o.below B6.o RB5.o.lt);have Yu:=q_ (oT.o.below B6.o oT.o.lt);have OG6:=q_ (OG5.o.on B6.o);have XB6:=q_ (Ww.o.below B6.o Ww.o.lt);have z6:=XB6.o.cell;have zv:=VB.o.cell
 ·skip
  have Et:=q_ (xK.o.trans (M.Ib FJ.o mq.o));go_wp2_with fail;refine(cm _ _).mono ?_
  rintro e w7 ⟨rfl,hb⟩;have RB7:=q_ (RB6.o.below hb RB6.o.lt);have SX:=q_ (Yu.o.below hb Yu.o.lt);have OG7:=q_ (OG6.o.on hb);clear hb z6 zv;go_wp2_with (refine aq rfl (.tmp 4) (.tmp 72) rfl w.heap.size (M.bk (!v0.truth)) (by rfl) (by rfl) RB7.o rfl ?_;intro w9 k9 g9;have K9:=q_ k9;have G9:=q_ g9;clear k9 g9)
  (try simp only[Exit.inBlock,Exit.then]);exact bodyPost_ret (aT rfl K9.o rfl) rfl ⟨OG7.o.grown (fun h=>by omega) G9.o,by rw[Et.o];exact SX.o.aK G9.o (by have:=HG.o;omega),by rw[Et.o];rfl⟩
 cases hq:v0.truth;rotate_left
 ·have Et:=q_ (xK.o.trans (M.yX FJ.o (.inl ⟨mq.o,hq⟩)))
  have HVE:=q_ (show Ending.returned (eh ⟨v0.kind,v0.text,v0.num,true⟩)=dD (.ok v0) by show Ending.returned (eh _)= .returned (eh v0);unfold eh;rw[hq]);go_wp2_with (refine aq rfl (.tmp 4) (.tmp 89) rfl w.heap.size (⟨v0.kind,v0.text,v0.num,true⟩) (by rfl) (by rfl) RB6.o rfl ?_;intro w9 k9 g9;have K9:=q_ k9;have G9:=q_ g9;clear k9 g9)
  (try simp only[Exit.inBlock,Exit.then]);exact bodyPost_ret (aT rfl K9.o rfl) rfl ⟨OG6.o.grown (fun h=>by omega) G9.o,by rw[Et.o];exact Yu.o.aK G9.o (by have:=HG.o;omega),by rw[Et.o];exact HVE.o⟩
 cases hq:v0.truth
 ·have Et:=q_ (xK.o.trans (M.yX FJ.o (.inr ⟨mq.o,hq⟩)))
  have HVE:=q_ (show Ending.returned (eh ⟨v0.kind,v0.text,v0.num,false⟩)=dD (.ok v0) by show Ending.returned (eh _)= .returned (eh v0);unfold eh;rw[hq]);go_wp2_with (refine aq rfl (.tmp 4) (.tmp 89) rfl w.heap.size (⟨v0.kind,v0.text,v0.num,false⟩) (by rfl) (by rfl) RB6.o rfl ?_;intro w9 k9 g9;have K9:=q_ k9;have G9:=q_ g9;clear k9 g9)
  (try simp only[Exit.inBlock,Exit.then]);exact bodyPost_ret (aT rfl K9.o rfl) rfl ⟨OG6.o.grown (fun h=>by omega) G9.o,by rw[Et.o];exact Yu.o.aK G9.o (by have:=HG.o;omega),by rw[Et.o];exact HVE.o⟩
 all_goals
  obtain⟨t1,tl1,El⟩:∃t1 tl1,tl=t1::tl1:=by
   have hl:=oQ.o;have GD:M.cd x.op=2:=by have:=mq.o;unfold M.cd;rw[if_neg (by omega),if_neg (by omega),if_pos (by unfold M.lQ;simp;omega)]
   rw[GD,HKS.o] at hl;cases hq:tl with
   |nil=>rw[hq] at hl;simp at hl
   |cons b1 b2=>exact⟨b1,b2,rfl⟩
  have jq:ks=t0::t1::tl1:=by rw[HKS.o,El]
  have om:=HKI.o;have hw:∀i,M.wanted x i=3:=fun i=>by have:=Yt.o;unfold M.wanted;rw[if_neg (by omega),if_neg (by omega)]
  have hl2:2<=ks.length:=by rw[jq];simp
  obtain⟨kk1,kY⟩:=om 1 t1 (by rw[jq];rfl);have F6:=cF (i:=1) (t:=t1) HT.o (by rw[jq];rfl);rw[hw] at F6;have Tv:=M.cw (k:=1) iX.o (show ks[1]? =some t1 by rw[jq];rfl);have MG:=q_ (show M.kid ks 1=t1 by rw[jq];rfl);have HO1:=q_ (And.intro F6 (And.intro Tv kY));clear F6 Tv kY;have jcl:=q_ jq;clear jq om hw El;have hnl6:=UD;obtain⟨b1,y1,u1,xH,nQ,eI,hr2,nU⟩:=(PL5.o.below B6.o (fun b h=>(SW5.o b h).1)).in1 (k:=1) rfl (by omega);injection xH with xH;subst xH;rw[jcl.o] at eI;simp at eI;subst eI;obtain⟨NF,NG,rfl,ln,jS⟩:=aU.av (E:=ENode) hr2;have jcm:=B6.o.size;have EX1:=q_ (HEX.o t1 g Mu S (fun b=>N b\/New w3 w4 b) c st p bs F u2 env false kk1 NF NG w6 HO1.o.1 HO1.o.2.1 HO1.o.2.2 (HP.o.only OG6.o) Yu.o hF (by rcases M.fl FJ.o with⟨k,_,h,h2⟩|⟨_,h,_⟩;omega;cases h) (fun b h=>⟨l_ (SW5.o b h).1 jcm,(SW5.o b h).2⟩) ln jS);rw[show a1.add 1=⟨a1.block,a1.off+1,none⟩ by rw[Addr.add,if_neg (by omega)]] at nU;clear hr2 jS ln;rcases kG:M.cut F u2 (M.aL c st.m st.scopes d t1) with⟨res,u3⟩
  rw[kG] at EX1;rw[<-MG.o] at kG;have oU:=q_ (xK.o.trans (M.MC FJ.o (by have:=mq.o;omega) (by have:=mq.o;rintro(⟨h1,h⟩|⟨h1,h⟩)<;>first|omega|(rw[hq] at h;cases h)) kG));have jcn:=q_ kG;clear kG;rcases res with er|v1
  ·skip
   go_wp2_with fail;refine EX1.o.mono ?_;rintro e w7 ⟨h1,h2,h3⟩;have OG7:=q_ (OG6.o.tr h1);have SX:=q_ h2;obtain rfl:=h3;clear h1 h2 z6 zv;unfold dD dt;go_wp2;exact⟨rfl,OG7.o,by rw[oU.o];exact SX.o,by rw[oU.o];rfl⟩
  have HV1:=q_ (show iF v1 by
   rcases M.fl jcn.o with⟨k,hr,_,_⟩|⟨_,he,_⟩
   ·rw[MG.o] at hr
    exact HVS.o t1 c st v1 k HO1.o.1 HP.o.vals HP.o.jU HP.o.fT HP.o.aH hr
   ·cases he)
  go_wp2_with fail;refine EX1.o.mono ?_;rintro e w7 ⟨h1,h2,h3⟩;have OG7:=q_ (OG6.o.tr h1);have SX:=q_ h2;obtain rfl:=h3;have RB7:=q_ (h1.blk RB6.o (by have:=HG.o;omega));have XB7:=q_ (h1.blk XB6.o Z'.o.1);have VB7:=q_ (h1.blk VB.o (by have:=HG.o;have:=OG5.o.size;omega));have B8:=q_ ((Below.refl _ w7).alloc (n_) (.cells #[.int .i64 v1.kind,.string v1.text,.int .i64 v1.num,.bool v1.truth] 33));have VB8:=q_ (ar.new w7 33 #[.int .i64 v1.kind,.string v1.text,.int .i64 v1.num,.bool v1.truth]);clear h1 h2 z6 zv;unfold dD eh;go_upto_region 25 with fail;generalize w7.alloc (.cells #[.int .i64 v1.kind,.string v1.text,.int .i64 v1.num,.bool v1.truth] 33)=w8 at B8 VB8⊢;have RB8:=q_ (RB7.o.below B8.o RB7.o.lt);have Wx:=q_ (SX.o.below B8.o SX.o.lt);have OG8:=q_ (OG7.o.on B8.o);have XB8:=q_ (XB7.o.below B8.o XB7.o.lt);have VA8:=q_ (VB7.o.below B8.o VB7.o.lt);have z8:=XB8.o.cell;have zv:=VA8.o.cell;have zw:=VB8.o.cell
 ·have mC:=q_ (show M.cut F u (M.aL c st.m st.scopes (d+1) (.mk x ks))=(.ok v1,u3) by rw[oU.o];unfold M.Er;simp only;rw[if_pos (by have:=mq.o;omega)])
  go_wp2_with (refine aq rfl (.tmp 4) (.tmp 103) rfl w.heap.size (v1) (by rfl) (by rfl) RB8.o rfl ?_;intro w9 k9 g9;have K9:=q_ k9;have G9:=q_ g9;clear k9 g9)
  (try simp only[Exit.inBlock,Exit.then]);exact bodyPost_ret (aT rfl K9.o rfl) rfl ⟨OG8.o.grown (fun h=>by omega) G9.o,by rw[mC.o];exact Wx.o.aK G9.o (by have:=HG.o;omega),by rw[mC.o];rfl⟩
 ·skip
  have mC:=q_ (show M.cut F u (M.aL c st.m st.scopes (d+1) (.mk x ks))=(M.gY x.op v0 v1,u3) by rw[oU.o];unfold M.Er;simp only;rw[if_neg (by have:=mq.o;omega)]);have KT:=q_ (fun W=>TX x.op v0 v1 HV0.o HV1.o W);generalize M.gY x.op v0 v1=r at KT mC;go_wp2_with fail;refine(KT.o _).mono ?_
  rintro e w9' ⟨he,hb⟩;have RB9:=q_ (RB8.o.below hb RB8.o.lt);have Wl:=q_ (Wx.o.below hb Wx.o.lt);have OG9:=q_ (OG8.o.on hb);have HE:=q_ he;clear hb he z8 zv zw;cases r with
  |error er=>
   obtain rfl:=HE.o;unfold dD dt;go_wp2;exact⟨rfl,OG9.o,by rw[mC.o];exact Wl.o,by rw[mC.o];rfl⟩
  |ok v=>
   obtain rfl:=HE.o;unfold dD;go_wp2_with (refine aq rfl (.tmp 4) (.tmp 108) rfl w.heap.size (v) (by rfl) (by rfl) RB9.o rfl ?_;intro w9 k9 g9;have K9:=q_ k9;have G9:=q_ g9;clear k9 g9)
   (try simp only[Exit.inBlock,Exit.then]);exact bodyPost_ret (aT rfl K9.o rfl) rfl ⟨OG9.o.grown (fun h=>by omega) G9.o,by rw[mC.o];exact Wl.o.aK G9.o (by have:=HG.o;omega),by rw[mC.o];rfl⟩
 ·have mC:=q_ (show M.cut F u (M.aL c st.m st.scopes (d+1) (.mk x ks))=(.ok v1,u3) by rw[oU.o];unfold M.Er;simp only;rw[if_pos (by have:=mq.o;omega)])
  go_wp2_with (refine aq rfl (.tmp 4) (.tmp 103) rfl w.heap.size (v1) (by rfl) (by rfl) RB8.o rfl ?_;intro w9 k9 g9;have K9:=q_ k9;have G9:=q_ g9;clear k9 g9)
  (try simp only[Exit.inBlock,Exit.then]);exact bodyPost_ret (aT rfl K9.o rfl) rfl ⟨OG8.o.grown (fun h=>by omega) G9.o,by rw[mC.o];exact Wx.o.aK G9.o (by have:=HG.o;omega),by rw[mC.o];rfl⟩
end
section
open Go Go.RowKit
theorem sz:s.size=s.data.toList.length:=by simp
theorem QW(l:List UInt8):(M.T l).size=l.length:=by simp[M.T,ByteArray.size]
theorem eD(h:s.size<=1048576):iF (M.br s):=⟨h,by show(0:Int)<=0;omega,by show(0:Int)<=2147483647;omega⟩
theorem nx(h:0<=n)(h2:n<=2147483647):iF (M.fx n):=⟨by show ByteArray.empty.size<=1048576;decide,h,h2⟩
theorem dz(b:Bool):iF (M.bk b):=⟨by show ByteArray.empty.size<=1048576;decide,by show(0:Int)<=0;decide,by show(0:Int)<=2147483647;decide⟩
theorem rH:iF M.cW:=⟨by decide,by decide,by decide⟩
theorem Eu(h:M.short s= .ok v):iF v:=by
 unfold M.short at h;split at h
 ·cases h
 ·cases h
  exact eD (by omega)
theorem sx(lo hi:Nat)(s:ByteArray):(M.turned lo hi s).size=s.size:=by
 unfold M.turned;rw[QW,List.length_map];rfl
theorem QX(s:ByteArray)(a n:Int):(M.sub s a n).size<=s.size:=by
 unfold M.sub;rw[QW,List.length_take,List.length_drop];have:(M.L s).length=s.size:=by simp[M.L]
 omega
theorem find_range(s part:ByteArray):0<=M.find s part/\M.find s part<=s.size+1:=by
 unfold M.find;have h1:=Lib.index_ge s.data.toList part.data.toList;have h2:=Lib.index_le s.data.toList part.data.toList;have:s.data.toList.length=s.size:=by simp
 unfold M.L;omega
theorem vV{old iy:List UInt8}:∀{k:Nat} {acc s l:List UInt8},M.l8 old iy k acc s=some l->l.length<=4096
 |0,acc,s,l,h=>by cases h
 |k+1,acc,s,l,h=>by
  unfold M.l8 at h;split at h
  ·split at h
   ·cases h
   ·cases h;omega
  ·simp only at h
   split at h
   ·cases h
   ·exact vV h
theorem Bp{old:ByteArray}(h:M.replace s old iy= .ok t):t.size<=4096:=by
 unfold M.replace at h;split at h
 ·split at h
  ·cases h
  ·cases h;omega
 ·split at h
  ·next l hl=>cases h;rw[QW];exact vV hl
  ·cases h
theorem QY(h:M.pad s n iy= .ok t):t.size<=4096:=by
 unfold M.pad at h;split at h
 ·split at h
  ·cases h
  ·cases h;omega
 ·split at h
  ·cases h
  ·cases h
   rename_i h1 h2;have h3:¬n<=(s.size:Int):=fun h=>h1 (.inl h);rw[QW,List.length_append];have e1:(M.lz (M.L iy) (n-s.size).toNat).length=(n-s.size).toNat:=by simp[M.lz]
   have e2:(M.L s).length=s.size:=by simp[M.L]
   omega
theorem Ig{l:List (ByteArray×ByteArray)}{k v:ByteArray}(h:M.look k l=some v):∃e∈l,e.2=v:=by
 induction l with
 |nil=>cases h
 |cons p l ih=>
  obtain⟨a,b⟩:=p;unfold M.look at h;split at h
  ·cases h;exact⟨_,List.mem_cons_self,rfl⟩
  ·obtain⟨e,he,h2⟩:=ih h
   exact⟨e,List.mem_cons_of_mem _ he,h2⟩
theorem count_le(m:M.dQ)(name:ByteArray):M.count m name<=m.aH.length:=List.length_filter_le _ _
theorem Ew(v:Int)(h:0<=v)(h2:v<=2147483647):(P.digits v).length<=21:=by
 unfold P.digits
 have:=P.iP 20 v.natAbs 20 (by decide) (by have:v.natAbs<=2147483647:=by omega
                                           have h3:(10:Nat)^20=100000000000000000000:=by decide
                                           omega)
 rw[List.length_append];split<;>simp<;>omega
theorem vW{l:List UInt8}:0<=P.lL l/\P.lL l<=2147483647:=by
 unfold P.lL;split
 ·rename_i h
  unfold P.ew at h;simp only[Bool.and_eq_true,decide_eq_true_eq] at h;omega
 ·omega
theorem QZ{a:M.Val}(ha:iF a)(hb:iF b)(h:M.plusV a b= .ok v):iF v:=by
 unfold M.plusV at h;split at h
 ·exact Eu h
 ·split at h
  ·cases h
  ·cases h
   obtain⟨a1,a2,a3⟩:=ha;obtain⟨b1,b2,b3⟩:=hb;have hw:M.ZB (a.num+b.num)=a.num+b.num:=IntWalk.i64_in _ ⟨by omega,by omega⟩;rename_i hn;rw[hw] at hn⊢;exact nx (by omega) (by omega)
theorem UX{op:Int}{a:M.Val}(ha:iF a)(hb:iF b)(h:M.gY op a b= .ok v):iF v:=by
 unfold M.gY at h;split at h
 ·cases h;exact dz _
 ·split at h
  ·cases h;exact dz _
  ·split at h
   ·cases h;exact dz _
   ·split at h
    ·cases h;exact dz _
    ·split at h
     ·cases h;exact dz _
     ·split at h
      ·cases h;exact dz _
      ·exact QZ ha hb h
theorem Q0(h:∀v∈a,iF v)(i:Nat):iF (M.aY a i):=by
 unfold M.aY;rw[List.getD_eq_getElem?_getD];cases hq:a[i]?with
 |none=>exact rH
 |some v=>exact h v (m_ hq)
theorem JM{r:Except Int ByteArray}(hr:∀s,r= .ok s->s.size<=1048576)(h:M.told r= .ok v):iF v:=by
 cases r with
 |error e=>cases h
 |ok s=>cases h;exact eD (hr s rfl)
theorem Yv{l:List UInt8}(h:(if P.ew l=true then Except.ok (M.fx (P.lL l)) else Except.error (11:Int))= .ok v):iF v:=by
 by_cases hq:P.ew l=true
 ·rw[if_pos hq] at h
  cases h;exact nx vW.1 vW.2
 ·rw[if_neg hq] at h
  cases h
theorem look_ok{ts:List M.Table}{key other:ByteArray}(xF:∀t∈ts,∀e∈t.entries,e.2.size<=1048576)(ho:other.size<=1048576):iF (M.br ((M.look key (M.bQ ts name).entries).getD other)):=by
 refine eD ?_;cases hl:M.look key (M.bQ ts name).entries with
 |none=>exact ho
 |some s=>
  obtain⟨e,he,h2⟩:=Ig hl;show s.size<=1048576;rw[<-h2];unfold M.bQ at he;cases hf:ts.find? (fun t=>M.bJ t.name name) with
  |none=>rw[hf] at he;cases he
  |some t=>rw[hf] at he;exact xF t (List.mem_of_find?_eq_some hf) e he
theorem Q3{c:M.Cx}{m:M.dQ}{x:M.Node}(ha:∀v∈a,iF v)(tx:c.now.size<=1048576)(xF:∀t∈c.tables,∀e∈t.entries,e.2.size<=1048576)(Av:m.aH.length<=1048576)(h:M.nV c m name x a= .ok v):iF v:=by
 have A:=fun i=>Q0 ha i;unfold M.nV at h;by_cases Wy:M.bJ name M.N4=true
 ·rw[if_pos Wy] at h
  cases h;exact nx (by omega) (by have:=(A 0).text;omega)
 rw[if_neg Wy] at h;by_cases JN:M.bJ name M.uM=true
 ·rw[if_pos JN] at h
  cases h;exact eD (by rw[sx];exact(A 0).text)
 rw[if_neg JN] at h;by_cases JO:M.bJ name M.uN=true
 ·rw[if_pos JO] at h
  cases h;exact eD (by rw[sx];exact(A 0).text)
 rw[if_neg JO] at h;by_cases Q4:M.bJ name M.CP=true
 ·rw[if_pos Q4] at h
  cases h;exact eD (t_ (Jl _) (A 0).text)
 rw[if_neg Q4] at h;by_cases Wz:M.bJ name M.N7=true
 ·rw[if_pos Wz] at h
  cases h;exact eD (t_ (QX _ _ _) (A 0).text)
 rw[if_neg Wz] at h;by_cases Q6:M.bJ name M.CQ=true
 ·rw[if_pos Q6] at h
  cases h;have:=find_range (M.aY a 0).text (M.aY a 1).text;exact nx this.1 (by have:=(A 0).text;omega)
 rw[if_neg Q6] at h;by_cases yY:M.bJ name M.lS=true
 ·rw[if_pos yY] at h
  exact JM (fun s hs=>t_ (Bp hs) (by decide)) h
 rw[if_neg yY] at h;by_cases WA:M.bJ name M.Oa=true
 ·rw[if_pos WA] at h
  exact JM (fun s hs=>t_ (QY hs) (by decide)) h
 rw[if_neg WA] at h;by_cases Ex:M.bJ name M.pG=true
 ·rw[if_pos Ex] at h
  exact Yv h
 rw[if_neg Ex] at h;by_cases Q7:M.bJ name M.CR=true
 ·rw[if_pos Q7] at h
  cases h;exact eD (by rw[QW];exact t_ (Ew _ (A 0).lo (A 0).hi) (by decide))
 rw[if_neg Q7] at h;by_cases Ey:M.bJ name M.nh=true
 ·rw[if_pos Ey] at h
  cases h;exact dz _
 rw[if_neg Ey] at h;by_cases JP:M.bJ name M.qU=true
 ·rw[if_pos JP] at h
  cases h;exact nx (by omega) (by have:=count_le m x.text;omega)
 rw[if_neg JP] at h;by_cases Ez:M.bJ name M.ni=true
 ·rw[if_pos Ez] at h
  cases h;exact look_ok xF (A 2).text
 rw[if_neg Ez] at h;by_cases WB:M.bJ name M.Kl=true
 ·rw[if_pos WB] at h
  cases h;exact dz _
 rw[if_neg WB] at h;cases h;exact eD tx
theorem Q8{scopes:List M.Scope}(h:∀s:M.Scope,s∈scopes->∀(n:ByteArray) (v:M.Val),s n=some v->iF v):iF (M.named scopes name):=by
 unfold M.named;cases hq:scopes.reverse.findSome? fun s=>s name with
 |none=>exact rH
 |some v=>
  obtain⟨s,hs,h2⟩:=List.exists_of_findSome?_eq_some hq;exact h s (List.mem_reverse.1 hs) name v h2
theorem EA{f:M.Tree->Except Int M.Val×Nat}:∀{l:List M.Tree} {vs:List M.Val} {k:Nat},(∀t∈l,∀v k,f t=(.ok v,k)->iF v)->M.cz f l=(.ok vs,k)->∀v∈vs,iF v
 |[],vs,k,_,h,v,hv=>by
  unfold M.cz at h;cases h;cases hv
 |t::l,vs,k,hf,h,v,hv=>by
  unfold M.cz at h;split at h
  ·cases h
  ·next u j hu=>
   split at h
   ·cases h
   ·next us i hus=>
    cases h;rcases List.mem_cons.1 hv with rfl|hv
    ·exact hf t List.mem_cons_self v j hu
    ·exact EA (fun t ht=>hf t (List.mem_cons_of_mem _ ht)) hus v hv
theorem j3:∀d,Hu d
 |0=>fun t _ _ _ _ h=>by simp[M.jP] at h
 |d+1=>fun t c st v k hT hsc tx xF Av h=>by
  obtain⟨x,ks⟩:=t;have ih:=j3 d;have vX:=cU hT;have gS:∀(i:Nat) (t:M.Tree),ks[i]? =some t->M.wanted x i=3->M.jP d 3 t=true:=fun i t hi hw=>by have:=cF hT hi;rwa [hw] at this
  have rD:=rC vX.1;have hw:∀i,M.wanted x i=3:=fun i=>by unfold M.wanted;rw[if_neg (by omega),if_neg (by omega)]
  have hz:M.jP d 3 (.mk ⟨0,0,ByteArray.empty,0,M.lN⟩ [])=true->False:=fun h=>by
   cases d with
   |zero=>simp[M.jP] at h
   |succ d=>have:=(cU h).1;simp[M.b7] at this
  have hr:=vX.2.1;unfold M.right at hr;simp only[Bool.and_eq_true] at hr;unfold M.aL at h;split at h
  ·cases h
   rename_i h7;refine eD ?_;have:=hr.2;rw[if_neg (by omega),if_neg (by omega),if_neg (by omega),if_pos (.inr h7)] at this;simp only[decide_eq_true_eq] at this;omega
  split at h
  ·cases h
   rename_i h7 h8;have:=hr.2;rw[if_neg (by omega),if_neg (by omega),if_neg (by omega),if_neg (by omega),if_pos h8] at this;simp only[decide_eq_true_eq] at this;exact nx this.1 this.2
  split at h
  ·cases h;exact dz _
  split at h
  ·injection h with h1 h2
   exact Eu h1
  split at h
  ·cases h;exact Q8 hsc
  split at h
  ·split at h
   ·cases h
   ·next vs j Xc=>
    injection h with h1 h2;refine Q3 ?_ tx xF Av h1
    have hall:∀v∈vs,iF v:=EA (fun t ht v k hv=>by
     have:∃i:Nat,ks[i]? =some t:=by
      split at ht
      ·exact List.getElem?_of_mem (List.mem_of_mem_tail ht)
      ·exact List.getElem?_of_mem ht
     obtain⟨i,hi⟩:=this;exact ih t c st v k (gS i t hi (hw i)) hsc tx xF Av hv) Xc
    split
    ·intro v hv
     rcases List.mem_cons.1 hv with rfl|hv
     ·exact rH
     ·exact hall v hv
    ·exact hall
  ·have hk:∀(i:Nat) (v:M.Val) (k:Nat),i<ks.length->M.aL c st.m st.scopes d (M.kid ks i)=(.ok v,k)->iF v:=fun i v k hi hv=>by
    unfold M.kid at hv;rw[List.getD_eq_getElem?_getD,e_ hi] at hv;exact ih _ c st v k (gS i _ (e_ hi) (hw i)) hsc tx xF Av hv
   have ep:=gT vX.2.1;rw[vX.2.2] at ep
   have h0:0<ks.length:=by
    unfold M.cd M.lQ at ep;split at ep
    ·omega
    ·split at ep
     ·omega
     ·split at ep
      ·omega
      ·rename_i h1 h2 h3
       simp at h3;omega
   have h1:x.op≠22->1<ks.length:=fun hx=>by
    unfold M.cd M.lQ at ep;split at ep
    ·omega
    ·split at ep
     ·omega
     ·split at ep
      ·omega
      ·rename_i h1 h2 h3
       simp at h3;omega
   split at h
   ·cases h
   ·next a j ha=>
    split at h
    ·cases h;exact dz _
    ·split at h
     ·cases h;exact hk 0 _ _ h0 ha
     ·split at h
      ·cases h
      ·next b i hb=>
       injection h with g1 g2;split at g1
       ·cases g1;exact hk 1 _ _ (h1 (by assumption)) hb
       ·exact UX (hk 0 _ _ h0 ha) (hk 1 _ _ (h1 (by assumption)) hb) g1
end
end Go.Proofs.YtpohlhkgbmdieaaGreatDoor
