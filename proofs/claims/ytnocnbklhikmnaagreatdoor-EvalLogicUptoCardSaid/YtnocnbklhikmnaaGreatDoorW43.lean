/- Part 43 of the proof. -/
import Derived.Test.YtnocnbklhikmnaaGreatDoorW38
import Derived.Test.YtnocnbklhikmnaaGreatDoorW42
set_option linter.unusedVariables false
set_option maxRecDepth 1000000
set_option maxHeartbeats 16000000
namespace Go.Proofs.YtnocnbklhikmnaaGreatDoor
open Go Go.RowKit Go.BigFrame Go.Maps Go.WideMaps
namespace M
def binR(c:Cx)(m:Msg)(scopes:List Scope)(d:Nat)(x:Node)(ks:List Tree):Except Int Val×Nat:=
 match evalE c m scopes d (kid ks 0) with
 |(.error e,k)=>(.error e,k)
 |(.ok a,k)=>if x.op=22 then(.ok (vTruth (!a.truth)),k)
  else if(x.op=13/\a.truth=true)\/(x.op=14/\a.truth=false) then(.ok a,k)
  else match evalE c m scopes d (kid ks 1) with
   |(.error e,j)=>(.error e,k+j)
   |(.ok b,j)=>(if x.op=13\/x.op=14 then .ok b else twoV x.op a b,k+j)
theorem evalE_bin{c:Cx}{m:Msg}{scopes:List Scope}{d:Nat}{x:Node}{ks:List Tree}(h:13<=x.op/\x.op<=22):evalE c m scopes (d+1) (.mk x ks)=((binR c m scopes d x ks).1,(binR c m scopes d x ks).2+1):=by
 conv=>lhs;unfold evalE
 rw[if_neg (by omega),if_neg (by omega),if_neg (by omega),if_neg (by omega),if_neg (by omega),if_neg (by omega)];unfold binR;cases h0:evalE c m scopes d (kid ks 0) with
 |mk r k=>
 cases r with
 |error e=>rfl
 |ok a=>
  simp only;split
  ·rfl
  ·split
   ·rfl
   ·cases h1:evalE c m scopes d (kid ks 1) with
    |mk r2 j=>cases r2<;>rfl
theorem evalE_7{c:Cx}{m:Msg}{scopes:List Scope}{d:Nat}{x:Node}{ks:List Tree}(h:x.op=7):evalE c m scopes (d+1) (.mk x ks)=(.ok (vText x.text),0+1):=by
 conv=>lhs;unfold evalE
 rw[if_pos h]
theorem evalE_8{c:Cx}{m:Msg}{scopes:List Scope}{d:Nat}{x:Node}{ks:List Tree}(h:x.op=8):evalE c m scopes (d+1) (.mk x ks)=(.ok (vNum x.num),0+1):=by
 conv=>lhs;unfold evalE
 rw[if_neg (by omega),if_pos h]
theorem evalE_9{c:Cx}{m:Msg}{scopes:List Scope}{d:Nat}{x:Node}{ks:List Tree}(h:x.op=9):evalE c m scopes (d+1) (.mk x ks)=(.ok (vTruth true),0+1):=by
 conv=>lhs;unfold evalE
 rw[if_neg (by omega),if_neg (by omega),if_pos (.inl h),h];rfl
theorem evalE_10{c:Cx}{m:Msg}{scopes:List Scope}{d:Nat}{x:Node}{ks:List Tree}(h:x.op=10):evalE c m scopes (d+1) (.mk x ks)=(.ok (vTruth false),0+1):=by
 conv=>lhs;unfold evalE
 rw[if_neg (by omega),if_neg (by omega),if_pos (.inr h),h];rfl
theorem evalE_11{c:Cx}{m:Msg}{scopes:List Scope}{d:Nat}{x:Node}{ks:List Tree}(h:x.op=11):evalE c m scopes (d+1) (.mk x ks)=(short (get m x.path),0+1):=by
 conv=>lhs;unfold evalE
 rw[if_neg (by omega),if_neg (by omega),if_neg (by omega),if_pos h]
theorem evalE_12{c:Cx}{m:Msg}{scopes:List Scope}{d:Nat}{x:Node}{ks:List Tree}(h:x.op=12):evalE c m scopes (d+1) (.mk x ks)=(.ok (named scopes x.text),0+1):=by
 conv=>lhs;unfold evalE
 rw[if_neg (by omega),if_neg (by omega),if_neg (by omega),if_neg (by omega),if_pos h]
theorem cut_leaf{F u:Nat}{r:Except Int Val}(h:u<F):cut F u (r,0+1)=(r,u+1):=cut_le (r:=(r,0+1)) (by show u+(0+1)<=F;omega)
section
variable {c:Cx} {m:Msg} {scopes:List Scope} {d:Nat} {x:Node} {ks:List Tree} {F U u2 u3:Nat} {e:Int} {a b:Val}
theorem bin_most(k:Nat)(r:Except Int Val)(h:evalE c m scopes d (kid ks 0)=(r,k)):k<=(binR c m scopes d x ks).2:=by
 unfold binR;rw[h];cases r with
 |error e=>exact n_
 |ok a=>
  simp only;split
  ·exact n_
  ·split
   ·exact n_
   ·cases evalE c m scopes d (kid ks 1) with
    |mk r2 j=>cases r2<;>simp
theorem cut_split{r:Except Int Val×Nat}{y:Except Int Val}(h:cut F U r=(y,u2)):(∃k,r=(y,k)/\u2=U+k/\U+k<=F)\/(F<U+r.2/\y= .error 83/\u2=F):=by
 obtain⟨r,k⟩:=r;by_cases hq:U+k<=F
 ·rw[cut_le hq] at h
  injection h with h1 h2;exact .inl ⟨k,by rw[<-h1],h2.symm,hq⟩
 ·rw[cut_gt hq] at h
  injection h with h1 h2;exact .inr ⟨by simpa using hq,h1.symm,h2.symm⟩
theorem cut_bin_err(h:cut F U (evalE c m scopes d (kid ks 0))=(.error e,u2)):cut F U (binR c m scopes d x ks)=(.error e,u2):=by
 rcases cut_split h with⟨k,hr,hu,hle⟩|⟨hgt,he,hu⟩
 ·have hb:binR c m scopes d x ks=(.error e,k):=by unfold binR;rw[hr]
  rw[hb,cut_le hle,hu]
 ·have:=bin_most (x:=x) _ _ (show evalE c m scopes d (kid ks 0)=((evalE c m scopes d (kid ks 0)).1,(evalE c m scopes d (kid ks 0)).2) from rfl)
  rw[cut_gt (by omega),he,hu]
theorem cut_bin_22(h:cut F U (evalE c m scopes d (kid ks 0))=(.ok a,u2))(hx:x.op=22):cut F U (binR c m scopes d x ks)=(.ok (vTruth (!a.truth)),u2):=by
 rcases cut_split h with⟨k,hr,hu,hle⟩|⟨hgt,he,hu⟩
 ·have hb:binR c m scopes d x ks=(.ok (vTruth (!a.truth)),k):=by unfold binR;rw[hr];simp only;rw[if_pos hx]
  rw[hb,cut_le hle,hu]
 ·cases he
theorem cut_bin_a(h:cut F U (evalE c m scopes d (kid ks 0))=(.ok a,u2))(hx:(x.op=13/\a.truth=true)\/(x.op=14/\a.truth=false)):cut F U (binR c m scopes d x ks)=(.ok a,u2):=by
 rcases cut_split h with⟨k,hr,hu,hle⟩|⟨hgt,he,hu⟩
 ·have hb:binR c m scopes d x ks=(.ok a,k):=by unfold binR;rw[hr];simp only;rw[if_neg (by omega),if_pos hx]
  rw[hb,cut_le hle,hu]
 ·cases he
def binB(op:Int)(a:Val):Except Int Val->Except Int Val
 | .error e=> .error e
 | .ok b=>if op=13\/op=14 then .ok b else twoV op a b
theorem cut_bin_b{y:Except Int Val}(h:cut F U (evalE c m scopes d (kid ks 0))=(.ok a,u2))(hx:x.op≠22)(hn:¬((x.op=13/\a.truth=true)\/(x.op=14/\a.truth=false)))(h2:cut F u2 (evalE c m scopes d (kid ks 1))=(y,u3)):
 cut F U (binR c m scopes d x ks)=(binB x.op a y,u3):=by
 rcases cut_split h with⟨k,hr,hu,hle⟩|⟨hgt,he,hu⟩
 ·have hb:binR c m scopes d x ks=(match evalE c m scopes d (kid ks 1) with|(.error e,j)=>(.error e,k+j)|(.ok b,j)=>(if x.op=13\/x.op=14 then .ok b else twoV x.op a b,k+j)):=by unfold binR;rw[hr];simp only;rw[if_neg hx,if_neg hn]
  rcases cut_split h2 with⟨j,hr2,hu2,hle2⟩|⟨hgt,he,hu2⟩
  ·rw[hb,hr2]
   cases y with
   |error e=>simp only[binB];rw[cut_le (by show U+(k+j)<=F;omega)];simp only[Prod.mk.injEq,true_and];omega
   |ok b=>simp only[binB];rw[cut_le (by show U+(k+j)<=F;omega)];simp only[Prod.mk.injEq,true_and];omega
  ·subst he
   rw[hb];cases h1:evalE c m scopes d (kid ks 1) with
   |mk r2 j=>
    rw[h1] at hgt;simp only at hgt;cases r2 with
    |error e=>simp only[binB];rw[cut_gt (by show¬U+(k+j)<=F;omega),hu2]
    |ok b=>simp only[binB];rw[cut_gt (by show¬U+(k+j)<=F;omega),hu2]
 ·cases he
end
end M
theorem kindE_kids{tn:List ByteArray}{env:List (ByteArray×Int)}{d:Nat}{seg:Bool}{x:M.Node}{ks:List M.Tree}{k:Int}(h:x.op≠23)(hk:M.kindE tn env (d+1) seg (.mk x ks)= .ok k):∀(j:Nat) (t:M.Tree),ks[j]? =some t->∃k,M.kindE tn env d false t= .ok k:=by
 unfold M.kindE at hk;rw[if_neg h] at hk;split at hk
 ·cases hk
 ·next kinds hkinds=>exact fun j t hj=>kindsL_mem _ _ _ hkinds j t hj
theorem Turns.tr{g:Nat}{w w' w'':World}(h:Turns (fun b=>b=g) w w')(h2:OnlyG g w' w''):OnlyG g w w'':=OnlyG.tr h h2
theorem ex_zero:ExOk 0:=fun t _ _ _ _ _ _ _ _ _ _ _ _ _ _ _ _ h=>by simp[M.okT] at h
theorem eexpr_any(d:Nat)(hex:ExOk d)(hca:CaOk d)(hvals:ValsOk d):ExOk (d+1):=by
 intro t g Mu S N c st p bs F u env seg kq A cap w hT hwf hkind hp hgb hF hu hN hok hl;cases t with
 |mk x ks=>
 have hm:=hok.le;obtain⟨htop1,htop2,htop3⟩:=okT_top hT;have hcls:=classOf_3 htop1;have hleast:=right_least htop2;have hfl:M.flat (.mk x ks)=x::M.flats ks:=by unfold M.flat;rfl
 have HWF:=q_ hwf;have HOK:=q_ hok;have HL:=q_ hl;have HT:=q_ hT;have HP:=q_ hp;have HG:=q_ (show g<w.heap.size from hgb.lt);have HGB:=q_ hgb;have HN:=q_ hN;have HCLS:=q_ hcls;have HKIND:=q_ hkind;have HCA:=q_ hca;have HEX:=q_ hex;have HVS:=q_ hvals;have HLEAST:=q_ (show M.leastN x.op<=(ks.length:Int) by rw[<-htop3];exact hleast);have hl0:=hl;rw[hfl] at hl0;obtain⟨ad,rfl,hbS,hx64,e0,he⟩:=node_open hl0;have hts:x.text.size<=1048576:=hx64.2.2.1;have HX64:=q_ hx64;have hpos:=M.flat_pos (.mk x ks)
 have hnl:ks.length<=1048576:=by
  have h1:=M.flats_len ks;have h2:(M.flat (.mk x ks)).length=(M.flats ks).length+1:=by rw[hfl];rfl
  omega
 have HWFL:=q_ (show M.wfL ks by unfold M.wfT at hwf;exact hwf.2);have EAD:=q_ (show ad.block<w.heap.size/\ad.block≠g from hN _ hbS);have CE:=q_ (And.intro e0 he);generalize hfm:(M.flat (.mk x ks)).length=m at*;have RB1:=q_ (Blk.new w 37 #[.int .i64 0,.string ⟨#[]⟩,.int .i64 0,.bool false]);have B1:=q_ ((Below.refl _ w).alloc (n_) (.cells #[.int .i64 0,.string ⟨#[]⟩,.int .i64 0,.bool false] 37));have GB1:=q_ (show Blk (w.alloc (.cells #[.int .i64 0,.string ⟨#[]⟩,.int .i64 0,.bool false] 37)) g 77 #[.int .u8 (p.d.f.toNat:Int),.int .u8 (p.d.c.toNat:Int),.int .u8 (p.d.r.toNat:Int),.int .u8 (p.d.e.toNat:Int),.int .u8 (p.d.s.toNat:Int),p.v,p.tv,.string p.now,.int .i64 (F:Nat),.int .i64 (u:Nat),p.rv,.bool p.stop,p.sv] from hgb.alloc _);clear hl0 hl hN hgb hp hwf hok hT hfl htop1 htop2 htop3 hkind he e0 hx64 hcls hleast hca hex hvals;go_enter Tryz.func28,Tryz.ntmps28;go_wp2_with fail;generalize w.alloc (.cells #[.int .i64 0,.string ⟨#[]⟩,.int .i64 0,.bool false] 37)=w1 at RB1 B1 GB1⊢;refine(step_any w1 g p F u hF hu GB1.o).mono ?_
 rintro e w2 (⟨huF,rfl,hog,hgb2⟩|⟨huF,rfl,hb⟩);rotate_left
 ·have HFU:=q_ huF
  have B2:=q_ (B1.o.trans (hb.mono B1.o.size));have HCUT:=q_ (show M.cut F u (M.evalE c st.m st.scopes (d+1) (.mk x ks))=(.error 83,F) from M.cut_gt (by have:=evalE_pos c st.m st.scopes d x ks;omega));clear hb huF;unfold panE;go_wp2;exact⟨rfl,Turns.of B2.o,by rw[HCUT.o];have:=HGB.o.below B2.o HGB.o.lt;rw[HFU.o] at this;exact this,by rw[HCUT.o];rfl⟩
 have OG2:=q_ (show OnlyG g w w2 from(show OnlyG g w w1 from Turns.of B1.o).tr hog);have GB2:=q_ hgb2;have RB2:=q_ (hog.blk RB1.o (by have:=HG.o;omega));have HU:=q_ huF;have P2:=q_ (HP.o.only OG2.o);have K2:=fun(q:Addr) (h:q.block=ad.block)=>OG2.o.cell (p:=q) (by rw[h];exact EAD.o.1) (by rw[h];exact EAD.o.2);have e0:=(K2 ad rfl).trans CE.o.1;have e1:=(K2 ⟨ad.block,ad.off+1,none⟩ rfl).trans (CE.o.2 0 _ rfl);have e2:=(K2 ⟨ad.block,ad.off+2,none⟩ rfl).trans (CE.o.2 1 _ rfl);have e3:=(K2 ⟨ad.block,ad.off+3,none⟩ rfl).trans (CE.o.2 2 _ rfl);have e4:=(K2 ⟨ad.block,ad.off+4,none⟩ rfl).trans (CE.o.2 3 _ rfl);have e5:=(K2 ⟨ad.block,ad.off+5,none⟩ rfl).trans (CE.o.2 4 _ rfl);have e6:=(K2 ⟨ad.block,ad.off+6,none⟩ rfl).trans (CE.o.2 5 _ rfl);have e7:=(K2 ⟨ad.block,ad.off+7,none⟩ rfl).trans (CE.o.2 6 _ rfl);have e8:=(K2 ⟨ad.block,ad.off+8,none⟩ rfl).trans (CE.o.2 7 _ rfl);have e9:=(K2 ⟨ad.block,ad.off+9,none⟩ rfl).trans (CE.o.2 8 _ rfl)
 have XB:=q_ (Blk.new w2 144 #[.int .i64 x.op,.int .i64 x.n,.string x.text,.int .i64 x.num,.string x.path.seg,.int .i64 x.path.occ,.int .i64 x.path.fld,.int .i64 x.path.rep,.int .i64 x.path.comp,.int .i64 x.path.sub]);have hs2:=hog.size;clear hog hgb2 K2
 have hcases:x.op=7\/x.op=8\/x.op=9\/x.op=10\/x.op=11\/x.op=12\/x.op=23\/(x.op=22\/x.op=13\/x.op=14\/(15<=x.op/\x.op<=21)):=by
  have:=HCLS.o;omega
 have B3:=q_ ((Below.refl _ w2).alloc (n_) (.cells #[.int .i64 x.op,.int .i64 x.n,.string x.text,.int .i64 x.num,.string x.path.seg,.int .i64 x.path.occ,.int .i64 x.path.fld,.int .i64 x.path.rep,.int .i64 x.path.comp,.int .i64 x.path.sub] 144));go_upto_region 3 with fail;clear e0 e1 e2 e3 e4 e5 e6 e7 e8 e9;generalize w2.alloc (.cells #[.int .i64 x.op,.int .i64 x.n,.string x.text,.int .i64 x.num,.string x.path.seg,.int .i64 x.path.occ,.int .i64 x.path.fld,.int .i64 x.path.rep,.int .i64 x.path.comp,.int .i64 x.path.sub] 144)=w3 at XB B3⊢;have z3:=XB.o.cell;rcases hcases with hop|hop|hop|hop|hop|hop|hop|hop
 ·have LAW:=q_ (show M.cut F u (M.evalE c st.m st.scopes (d+1) (.mk x ks))=(.ok (M.vText x.text),u+1) by rw[M.evalE_7 hop];exact M.cut_leaf HU.o)
  go_wp2_with fail
  skip
  refine(ofText_any _ _).mono ?_
  rintro e w4 ⟨rfl,hb⟩;have B4:=q_ (B3.o.trans (hb.mono B3.o.size));have RB4:=q_ (RB2.o.below B4.o RB2.o.lt);have GB4:=q_ (GB2.o.below B4.o GB2.o.lt);have OG4:=q_ (OG2.o.on B4.o);clear hb z3;go_wp2_with (refine wpList_store_V rfl (.tmp 4) (.tmp 21) rfl w.heap.size (M.vText x.text) (by rfl) (by rfl) RB4.o rfl ?_;intro w9 k9 g9;have K9:=q_ k9;have G9:=q_ g9;clear k9 g9)
  (try simp only[Exit.inBlock,Exit.then]);exact bodyPost_ret (val_res rfl K9.o rfl) rfl ⟨OG4.o.grown (fun h=>by omega) G9.o,by rw[LAW.o];exact GB4.o.grownAt G9.o (by have:=HG.o;omega),by rw[LAW.o];rfl⟩
 ·have LAW:=q_ (show M.cut F u (M.evalE c st.m st.scopes (d+1) (.mk x ks))=(.ok (M.vNum x.num),u+1) by rw[M.evalE_8 hop];exact M.cut_leaf HU.o)
  go_wp2_with fail
  skip
  refine(ofNum_any _ _).mono ?_
  rintro e w4 ⟨rfl,hb⟩;have B4:=q_ (B3.o.trans (hb.mono B3.o.size));have RB4:=q_ (RB2.o.below B4.o RB2.o.lt);have GB4:=q_ (GB2.o.below B4.o GB2.o.lt);have OG4:=q_ (OG2.o.on B4.o);clear hb z3;go_wp2_with (refine wpList_store_V rfl (.tmp 4) (.tmp 26) rfl w.heap.size (M.vNum x.num) (by rfl) (by rfl) RB4.o rfl ?_;intro w9 k9 g9;have K9:=q_ k9;have G9:=q_ g9;clear k9 g9)
  (try simp only[Exit.inBlock,Exit.then]);exact bodyPost_ret (val_res rfl K9.o rfl) rfl ⟨OG4.o.grown (fun h=>by omega) G9.o,by rw[LAW.o];exact GB4.o.grownAt G9.o (by have:=HG.o;omega),by rw[LAW.o];rfl⟩
 ·have LAW:=q_ (show M.cut F u (M.evalE c st.m st.scopes (d+1) (.mk x ks))=(.ok (M.vTruth true),u+1) by rw[M.evalE_9 hop];exact M.cut_leaf HU.o)
  go_wp2_with fail
  skip
  refine(ofTruth_any _ _).mono ?_
  rintro e w4 ⟨rfl,hb⟩;have B4:=q_ (B3.o.trans (hb.mono B3.o.size));have RB4:=q_ (RB2.o.below B4.o RB2.o.lt);have GB4:=q_ (GB2.o.below B4.o GB2.o.lt);have OG4:=q_ (OG2.o.on B4.o);clear hb z3;go_wp2_with (refine wpList_store_V rfl (.tmp 4) (.tmp 33) rfl w.heap.size (M.vTruth true) (by rfl) (by rfl) RB4.o rfl ?_;intro w9 k9 g9;have K9:=q_ k9;have G9:=q_ g9;clear k9 g9)
  (try simp only[Exit.inBlock,Exit.then]);exact bodyPost_ret (val_res rfl K9.o rfl) rfl ⟨OG4.o.grown (fun h=>by omega) G9.o,by rw[LAW.o];exact GB4.o.grownAt G9.o (by have:=HG.o;omega),by rw[LAW.o];rfl⟩
 ·have LAW:=q_ (show M.cut F u (M.evalE c st.m st.scopes (d+1) (.mk x ks))=(.ok (M.vTruth false),u+1) by rw[M.evalE_10 hop];exact M.cut_leaf HU.o)
  go_wp2_with fail
  skip
  refine(ofTruth_any _ _).mono ?_
  rintro e w4 ⟨rfl,hb⟩;have B4:=q_ (B3.o.trans (hb.mono B3.o.size));have RB4:=q_ (RB2.o.below B4.o RB2.o.lt);have GB4:=q_ (GB2.o.below B4.o GB2.o.lt);have OG4:=q_ (OG2.o.on B4.o);clear hb z3;go_wp2_with (refine wpList_store_V rfl (.tmp 4) (.tmp 33) rfl w.heap.size (M.vTruth false) (by rfl) (by rfl) RB4.o rfl ?_;intro w9 k9 g9;have K9:=q_ k9;have G9:=q_ g9;clear k9 g9)
  (try simp only[Exit.inBlock,Exit.then]);exact bodyPost_ret (val_res rfl K9.o rfl) rfl ⟨OG4.o.grown (fun h=>by omega) G9.o,by rw[LAW.o];exact GB4.o.grownAt G9.o (by have:=HG.o;omega),by rw[LAW.o];rfl⟩
 ·have LAW:=q_ (show M.cut F u (M.evalE c st.m st.scopes (d+1) (.mk x ks))=(M.short (M.get st.m x.path),u+1) by rw[M.evalE_11 hop];exact M.cut_leaf HU.o)
  obtain⟨AM,nm,hv,hokm,hlm⟩:=P2.o.msg;have hd:=P2.o.d;have HV:=q_ hv;have HOKM:=q_ hokm;have HLM:=q_ hlm;have HS:=q_ (fun b (h:S b)=>(P2.o.far b h).1);have HEQ:=q_ (show(⟨p.d,st.m.segs⟩:M.Msg)=st.m by rw[hd]);have GV:=q_ GB2.o;rw[hv] at GV;clear hv hokm hlm hd;go_wp2_with fail
  skip
  have RB3:=q_ (RB2.o.below B3.o RB2.o.lt);have GB3:=q_ (GB2.o.below B3.o GB2.o.lt);have GV3:=q_ (GV.o.below B3.o GV.o.lt);have OG3:=q_ (OG2.o.on B3.o);have KG:=q_ (fun(W:World) (h:Below w2.heap.size w2 W)=>get_any p.d AM nm st.m.segs x.path S W (fun b hb=>Nat.lt_of_lt_of_le (HS.o b hb) h.size) HOKM.o (HLM.o.below h HS.o) HX64.o.2.2.2.2);rw[HEQ.o] at KG;clear z3;by_cases h4:4096<(M.get st.m x.path).size
  ·have LAW2:=q_ (show M.cut F u (M.evalE c st.m st.scopes (d+1) (.mk x ks))=(.error 2,u+1) by rw[LAW.o];unfold M.short;rw[if_pos h4])
   have KS:=q_ (fun(W:World)=>show Calls Tryz.prog 92 #[.string (M.get st.m x.path)] W fun e w'=>e=panE 2/\Below W.heap.size W w' from by
    have:=short_any (M.get st.m x.path) W;unfold M.short at this;rw[if_pos h4] at this;exact this)
   clear h4;refine wp_region_genP (KP:=fun ch w5=>panE 2= .panicked ch/\Below w3.heap.size w3 w5) 8 [] (ErrI w3 7) (by kernel_rfl) (by kernel_rfl) (ErrI.start w3 7) (fun ch a2 w5 hd hk=>⟨hd,OG3.o.on hk.2,by rw[LAW2.o];exact GB3.o.below hk.2 GB3.o.lt,by rw[LAW2.o];exact hk.1.symm⟩) ?_
   iterate 7
    apply wpGenP_pure rfl
    ·intro L vs wx hI hR hL K hK
     first
     |have c0:=(GV3.o.below hI.below GV3.o.lt).cell
      go_simp;exact hK _ (hI.pure (by decide))
     |have c0:=(XB.o.below hI.below XB.o.lt).cell
      go_simp;exact hK _ (hI.pure (by decide))
     |go_simp
      exact(KG.o _ (B3.o.trans (hI.below.mono B3.o.size))).mono fun e w' ⟨h1,h2⟩=> .inl ⟨_,h1,hK _ (hI.on h2 (by decide))⟩
    intro KK hKK;go_simp;refine hKK _ ?_;clear hKK KK
   refine wpGenP_pure (v:=undef) rfl ?_ ?_
   ·intro L vs wx hI hR hL K hK
    go_simp;exact(KS.o wx).mono fun e w' ⟨h1,h2⟩=> .inr ⟨_,h1,rfl,hI.below.trans (h2.mono hI.below.size)⟩
   intro KK hKK;go_simp;refine hKK _ ?_;clear hKK KK;refine wpGenP_nil ?_;intro vs w5 hI;exact absurd hI.no (by decide)
  ·have LAW2:=q_ (show M.cut F u (M.evalE c st.m st.scopes (d+1) (.mk x ks))=(.ok (M.vText (M.get st.m x.path)),u+1) by rw[LAW.o];unfold M.short;rw[if_neg h4])
   have KS:=q_ (fun(W:World)=>show Calls Tryz.prog 92 #[.string (M.get st.m x.path)] W fun e w'=>e= .returned (valV (M.vText (M.get st.m x.path)))/\Below W.heap.size W w' from by
    have:=short_any (M.get st.m x.path) W;unfold M.short at this;rw[if_neg h4] at this;exact this)
   clear h4;refine wp_region_genP (KP:=fun _ _=>False) 8 [] (NewI w3) (by kernel_rfl) (by kernel_rfl) (NewI.start w3) (fun ch a2 w5 hd hk=>hk.elim) ?_
   iterate 8
    apply wpGenP_pure rfl
    ·intro L vs wx hI hR hL K hK
     first
     |have c0:=(GV3.o.below hI GV3.o.lt).cell
      go_simp;exact hK _ hI
     |have c0:=(XB.o.below hI XB.o.lt).cell
      go_simp;exact hK _ hI
     |go_simp
      exact(KG.o _ (B3.o.trans (hI.mono B3.o.size))).mono fun e w' ⟨h1,h2⟩=>⟨_,h1,hK _ (hI.trans (h2.mono hI.size))⟩
     |go_simp
      exact(KS.o wx).mono fun e w' ⟨h1,h2⟩=>⟨_,h1,hK _ (hI.trans (h2.mono hI.size))⟩
    intro KK hKK;go_simp;refine hKK _ ?_;clear hKK KK
   refine wpGenP_nil ?_;intro vs w4 hI;have RB4:=q_ (RB3.o.below hI RB3.o.lt);have GB4:=q_ (GB3.o.below hI GB3.o.lt);have OG4:=q_ (OG3.o.on hI);clear hI;intro KK hKK;have hKN:=fun a w h=>hKK .normal a w h;simp only[List.drop_succ_cons];refine wpList_store_V rfl (.tmp 4) (.tmp 43) rfl w.heap.size (M.vText (M.get st.m x.path)) (by rfl) (by rfl) RB4.o rfl ?_;intro w9 k9 g9;have K9:=q_ k9;have G9:=q_ g9;clear k9 g9;go_wp2_with fail
   (try simp only[Exit.inBlock,Exit.then]);exact bodyPost_ret (val_res rfl K9.o rfl) rfl ⟨OG4.o.grown (fun h=>by omega) G9.o,by rw[LAW2.o];exact GB4.o.grownAt G9.o (by have:=HG.o;omega),by rw[LAW2.o];rfl⟩
 ·have LAW:=q_ (show M.cut F u (M.evalE c st.m st.scopes (d+1) (.mk x ks))=(.ok (M.named st.scopes x.text),u+1) by rw[M.evalE_12 hop];exact M.cut_leaf HU.o)
  go_wp2_with fail
  skip
  refine(named_any g Mu S c st p bs F (u+1) x.text _ hts (GB2.o.below B3.o GB2.o.lt) (P2.o.below B3.o)).mono ?_
  rintro e w4 ⟨rfl,hb⟩;have B4:=q_ (B3.o.trans (hb.mono B3.o.size));have RB4:=q_ (RB2.o.below B4.o RB2.o.lt);have GB4:=q_ (GB2.o.below B4.o GB2.o.lt);have OG4:=q_ (OG2.o.on B4.o);clear hb z3;go_wp2_with (refine wpList_store_V rfl (.tmp 4) (.tmp 49) rfl w.heap.size (M.named st.scopes x.text) (by rfl) (by rfl) RB4.o rfl ?_;intro w9 k9 g9;have K9:=q_ k9;have G9:=q_ g9;clear k9 g9)
  (try simp only[Exit.inBlock,Exit.then]);exact bodyPost_ret (val_res rfl K9.o rfl) rfl ⟨OG4.o.grown (fun h=>by omega) G9.o,by rw[LAW.o];exact GB4.o.grownAt G9.o (by have:=HG.o;omega),by rw[LAW.o];rfl⟩
 ·have HOP:=q_ hop
  have LAW0:=q_ (show M.cut F u (M.evalE c st.m st.scopes (d+1) (.mk x ks))=M.cut F (u+1) (M.callR c st.m st.scopes d x ks) by rw[M.evalE_call hop];exact M.cut_step HU.o);have KC:=q_ (fun(W:World) (h:Below w2.heap.size w2 W)=>HCA.o x ks g Mu S N c st p bs F (u+1) env seg kq (some ad) cap W HT.o HWF.o HOP.o HKIND.o (P2.o.below h) (GB2.o.below h GB2.o.lt) hF HU.o (fun b hb=>⟨Nat.lt_of_lt_of_le (HN.o b hb).1 (Nat.le_trans OG2.o.size h.size),(HN.o b hb).2⟩) (by rw[hfm];exact HOK.o) ((OG2.o.lat (by rw[hfm];exact HL.o) HN.o).below h (fun b hb=>Nat.lt_of_lt_of_le (HN.o b hb).1 OG2.o.size)));rw[hfm] at KC;generalize M.cut F (u+1) (M.callR c st.m st.scopes d x ks)=r at*;obtain⟨r,u2⟩:=r;go_wp2_with fail
  skip
  clear z3;refine(KC.o _ B3.o).mono ?_
  rintro e w4 ⟨h1,h2,h3⟩;have OG4:=q_ (OG2.o.tr ((show OnlyG g w2 _ from Turns.of B3.o).tr h1));have RB4:=q_ (h1.blk (RB2.o.below B3.o RB2.o.lt) (by have:=HG.o;omega));have GB4:=q_ h2;have HE:=q_ h3;clear h1 h2 h3;cases r with
  |error er=>
   obtain rfl:=HE.o;unfold valE panE;go_wp2;exact⟨rfl,OG4.o,by rw[LAW0.o];exact GB4.o,by rw[LAW0.o];rfl⟩
  |ok v=>
   obtain rfl:=HE.o;unfold valE;go_wp2_with (refine wpList_store_V rfl (.tmp 4) (.tmp 54) rfl w.heap.size (v) (by rfl) (by rfl) RB4.o rfl ?_;intro w9 k9 g9;have K9:=q_ k9;have G9:=q_ g9;clear k9 g9)
   (try simp only[Exit.inBlock,Exit.then]);exact bodyPost_ret (val_res rfl K9.o rfl) rfl ⟨OG4.o.grown (fun h=>by omega) G9.o,by rw[LAW0.o];exact GB4.o.grownAt G9.o (by have:=HG.o;omega),by rw[LAW0.o];rfl⟩
 have HBIN:=q_ (show 13<=x.op/\x.op<=22 by omega)
 obtain⟨t0,tl,hks⟩:∃t0 tl,ks=t0::tl:=by
  have hl:=HLEAST.o
  have hlb:1<=M.leastN x.op:=by
   have:=HBIN.o;unfold M.leastN;rw[if_neg (by omega)];by_cases h22:x.op=22
   ·rw[if_pos (by omega)];decide
   ·rw[if_neg (by omega),if_pos (by unfold M.isBin;simp;omega)];decide
  cases hq:ks with
  |nil=>rw[hq] at hl;simp at hl;omega
  |cons a b=>exact⟨a,b,rfl⟩
 rcases hop with hop|hop|hop|hop
 all_goals
  have HOP:=q_ hop;have LAW0:=q_ (show M.cut F u (M.evalE c st.m st.scopes (d+1) (.mk x ks))=M.cut F (u+1) (M.binR c st.m st.scopes d x ks) by rw[M.evalE_bin HBIN.o];exact M.cut_step HU.o);have hkids:=kindE_kids (show x.op≠23 by omega) HKIND.o;have hw:∀i,M.wanted x i=3:=fun i=>by unfold M.wanted;rw[if_neg (by omega),if_neg (by omega)]
  obtain⟨kk0,hk0⟩:=hkids 0 t0 (by rw[hks];rfl);have ho0:=okT_kid (i:=0) (t:=t0) HT.o (by rw[hks];rfl);rw[hw] at ho0;have hf0:=M.wfL_get (k:=0) HWFL.o (show ks[0]? =some t0 by rw[hks];rfl);have HKD0:=q_ (show M.kid ks 0=t0 by rw[hks];rfl);have HO0:=q_ (And.intro ho0 (And.intro hf0 hk0));have hl2:1<=ks.length:=by rw[hks];simp
  have HKS:=q_ hks;have HKI:=q_ hkids;clear ho0 hf0 hk0 hkids hw hks
  try have n7:(x.op==7)=false:=by simp;omega
  try have n8:(x.op==8)=false:=by simp;omega
  try have n9:(x.op==9)=false:=by simp;omega
  try have n10:(x.op==10)=false:=by simp;omega
  try have n11:(x.op==11)=false:=by simp;omega
  try have n12:(x.op==12)=false:=by simp;omega
  try have n23:(x.op==23)=false:=by simp;omega
  try have n22:(x.op==22)=false:=by simp;omega
  try have n13:(x.op==13)=false:=by simp;omega
  try have n14:(x.op==14)=false:=by simp;omega
  have KP:=q_ (parts_any x ks HWF.o (some ad) m cap N w3 (fun b h=>Nat.lt_of_lt_of_le (HN.o b h).1 (Nat.le_trans OG2.o.size B3.o.size)) HOK.o ((OG2.o.lat HL.o HN.o).below B3.o (fun b hb=>Nat.lt_of_lt_of_le (HN.o b hb).1 OG2.o.size)));go_wp2_with fail;refine KP.o.mono ?_;rintro e w4 ⟨A1,c1,A2,c2,rfl,hk1,hk2,hl1,hl2',hb4⟩;have PL:=q_ hl1;have OKP:=q_ hk1;have SW:=q_ (show∀b,(N b\/New w3 w4 b)->b<w4.heap.size/\b≠g from fun b h=>h.elim (fun h=>⟨Nat.lt_of_lt_of_le (HN.o b h).1 (Nat.le_trans OG2.o.size (Nat.le_trans B3.o.size hb4.size)),(HN.o b h).2⟩) (fun h=>⟨h.2,by have:=HG.o;have:=h.1;have:=OG2.o.size;have:=B3.o.size;omega⟩));have B4:=q_ (B3.o.trans (hb4.mono B3.o.size));have RB4:=q_ (RB2.o.below B4.o RB2.o.lt);have GB4:=q_ (GB2.o.below B4.o GB2.o.lt);have OG4:=q_ (OG2.o.on B4.o);have XB4:=q_ (XB.o.below hb4 XB.o.lt);have P4:=q_ (HP.o.only OG4.o);have hs4:=hb4.size;have HG4:=q_ (show w2.heap.size≠g/\w.heap.size<=w2.heap.size by have:=HG.o;have:=OG2.o.size;omega);clear hk1 hk2 hl1 hl2' hb4 KP z3;have hcap:ks.length<=c1:=by simpa using OKP.o.2.1
  obtain⟨a1,y1,u1,rfl,hbS1,hy1,hr1,hd1⟩:=PL.o.in1 (k:=0) rfl (by omega);rw[add_0] at hd1;rw[HKS.o] at hy1;simp at hy1;subst hy1;obtain⟨At,ct,rfl,hokt,hlt1⟩:=Enc.list_inv (E:=ENode) hr1;have EX0:=q_ (HEX.o t0 g Mu S (fun b=>N b\/New w3 w4 b) c st p bs F (u+1) env false kk0 At ct w4 HO0.o.1 HO0.o.2.1 HO0.o.2.2 P4.o GB4.o hF HU.o SW.o hokt hlt1);have A1B:=q_ (SW.o _ hbS1);clear hr1 hlt1 hokt;have z4:=XB4.o.cell;rcases hcu:M.cut F (u+1) (M.evalE c st.m st.scopes d t0) with⟨res,u2⟩
  rw[hcu] at EX0;rw[<-HKD0.o] at hcu;have HCU:=q_ hcu;clear hcu;rcases res with er|v0
  ·skip
   have LAWE:=q_ (LAW0.o.trans (M.cut_bin_err HCU.o));go_wp2_with fail;refine EX0.o.mono ?_;rintro e w5 ⟨h1,h2,h3⟩;have OG5:=q_ (OG4.o.tr h1);have GB5:=q_ h2;obtain rfl:=h3;clear h1 h2 z4;unfold valE panE;go_wp2;exact⟨rfl,OG5.o,by rw[LAWE.o];exact GB5.o,by rw[LAWE.o];rfl⟩
  have HV0:=q_ (show VOk v0 by
   rcases M.cut_split HCU.o with⟨k,hr,_,_⟩|⟨_,he,_⟩
   ·rw[HKD0.o] at hr
    exact HVS.o t0 c st v0 k HO0.o.1 HP.o.vals HP.o.nowOk HP.o.tabsOk HP.o.segs hr
   ·cases he)
  go_wp2_with fail;refine EX0.o.mono ?_;rintro e w5 ⟨h1,h2,h3⟩;have OG5:=q_ (OG4.o.tr h1);have GB5:=q_ h2;obtain rfl:=h3;have RB5:=q_ (h1.blk RB4.o (by have:=HG.o;omega));have XB5:=q_ (h1.blk XB4.o HG4.o.1);have PL5:=q_ (h1.lat PL.o SW.o);have SW5:=q_ (fun b (h:N b\/New w3 w4 b)=>And.intro (Nat.lt_of_lt_of_le (SW.o b h).1 h1.size) (SW.o b h).2);have B6:=q_ ((Below.refl _ w5).alloc (n_) (.cells #[.int .i64 v0.kind,.string v0.text,.int .i64 v0.num,.bool v0.truth] 37));have VB:=q_ (Blk.new w5 37 #[.int .i64 v0.kind,.string v0.text,.int .i64 v0.num,.bool v0.truth]);clear h1 h2 z4;unfold valE valV;go_upto_region 19 with fail;generalize w5.alloc (.cells #[.int .i64 v0.kind,.string v0.text,.int .i64 v0.num,.bool v0.truth] 37)=w6 at B6 VB⊢;have RB6:=q_ (RB5.o.below B6.o RB5.o.lt);have GB6:=q_ (GB5.o.below B6.o GB5.o.lt);have OG6:=q_ (OG5.o.on B6.o);have XB6:=q_ (XB5.o.below B6.o XB5.o.lt);have z6:=XB6.o.cell;have zv:=VB.o.cell
 ·skip
  have LAWV:=q_ (LAW0.o.trans (M.cut_bin_22 HCU.o HOP.o));go_wp2_with fail;refine(ofTruth_any _ _).mono ?_
  rintro e w7 ⟨rfl,hb⟩;have RB7:=q_ (RB6.o.below hb RB6.o.lt);have GB7:=q_ (GB6.o.below hb GB6.o.lt);have OG7:=q_ (OG6.o.on hb);clear hb z6 zv;go_wp2_with (refine wpList_store_V rfl (.tmp 4) (.tmp 72) rfl w.heap.size (M.vTruth (!v0.truth)) (by rfl) (by rfl) RB7.o rfl ?_;intro w9 k9 g9;have K9:=q_ k9;have G9:=q_ g9;clear k9 g9)
  (try simp only[Exit.inBlock,Exit.then]);exact bodyPost_ret (val_res rfl K9.o rfl) rfl ⟨OG7.o.grown (fun h=>by omega) G9.o,by rw[LAWV.o];exact GB7.o.grownAt G9.o (by have:=HG.o;omega),by rw[LAWV.o];rfl⟩
 cases hq:v0.truth;rotate_left
 ·have LAWV:=q_ (LAW0.o.trans (M.cut_bin_a HCU.o (.inl ⟨HOP.o,hq⟩)))
  have HVE:=q_ (show Ending.returned (valV ⟨v0.kind,v0.text,v0.num,true⟩)=valE (.ok v0) by show Ending.returned (valV _)= .returned (valV v0);unfold valV;rw[hq]);go_wp2_with (refine wpList_store_V rfl (.tmp 4) (.tmp 89) rfl w.heap.size (⟨v0.kind,v0.text,v0.num,true⟩) (by rfl) (by rfl) RB6.o rfl ?_;intro w9 k9 g9;have K9:=q_ k9;have G9:=q_ g9;clear k9 g9)
  (try simp only[Exit.inBlock,Exit.then]);exact bodyPost_ret (val_res rfl K9.o rfl) rfl ⟨OG6.o.grown (fun h=>by omega) G9.o,by rw[LAWV.o];exact GB6.o.grownAt G9.o (by have:=HG.o;omega),by rw[LAWV.o];exact HVE.o⟩
 cases hq:v0.truth
 ·have LAWV:=q_ (LAW0.o.trans (M.cut_bin_a HCU.o (.inr ⟨HOP.o,hq⟩)))
  have HVE:=q_ (show Ending.returned (valV ⟨v0.kind,v0.text,v0.num,false⟩)=valE (.ok v0) by show Ending.returned (valV _)= .returned (valV v0);unfold valV;rw[hq]);go_wp2_with (refine wpList_store_V rfl (.tmp 4) (.tmp 89) rfl w.heap.size (⟨v0.kind,v0.text,v0.num,false⟩) (by rfl) (by rfl) RB6.o rfl ?_;intro w9 k9 g9;have K9:=q_ k9;have G9:=q_ g9;clear k9 g9)
  (try simp only[Exit.inBlock,Exit.then]);exact bodyPost_ret (val_res rfl K9.o rfl) rfl ⟨OG6.o.grown (fun h=>by omega) G9.o,by rw[LAWV.o];exact GB6.o.grownAt G9.o (by have:=HG.o;omega),by rw[LAWV.o];exact HVE.o⟩
 all_goals
  obtain⟨t1,tl1,htl⟩:∃t1 tl1,tl=t1::tl1:=by
   have hl:=HLEAST.o;have hlb:M.leastN x.op=2:=by have:=HOP.o;unfold M.leastN;rw[if_neg (by omega),if_neg (by omega),if_pos (by unfold M.isBin;simp;omega)]
   rw[hlb,HKS.o] at hl;cases hq:tl with
   |nil=>rw[hq] at hl;simp at hl
   |cons b1 b2=>exact⟨b1,b2,rfl⟩
  have hks:ks=t0::t1::tl1:=by rw[HKS.o,htl]
  have hkids:=HKI.o;have hw:∀i,M.wanted x i=3:=fun i=>by have:=HBIN.o;unfold M.wanted;rw[if_neg (by omega),if_neg (by omega)]
  have hl2:2<=ks.length:=by rw[hks];simp
  obtain⟨kk1,hk1⟩:=hkids 1 t1 (by rw[hks];rfl);have ho1:=okT_kid (i:=1) (t:=t1) HT.o (by rw[hks];rfl);rw[hw] at ho1;have hf1:=M.wfL_get (k:=1) HWFL.o (show ks[1]? =some t1 by rw[hks];rfl);have HKD1:=q_ (show M.kid ks 1=t1 by rw[hks];rfl);have HO1:=q_ (And.intro ho1 (And.intro hf1 hk1));clear ho1 hf1 hk1;have HKS2:=q_ hks;clear hks hkids hw htl;have hnl6:=hnl;obtain⟨b1,y1,u1,eb1,hbS2,hy2,hr2,hd2⟩:=(PL5.o.below B6.o (fun b h=>(SW5.o b h).1)).in1 (k:=1) rfl (by omega);injection eb1 with eb1;subst eb1;rw[HKS2.o] at hy2;simp at hy2;subst hy2;obtain⟨At2,ct2,rfl,hokt2,hlt2⟩:=Enc.list_inv (E:=ENode) hr2;have hs56:=B6.o.size;have EX1:=q_ (HEX.o t1 g Mu S (fun b=>N b\/New w3 w4 b) c st p bs F u2 env false kk1 At2 ct2 w6 HO1.o.1 HO1.o.2.1 HO1.o.2.2 (HP.o.only OG6.o) GB6.o hF (by rcases M.cut_split HCU.o with⟨k,_,h,h2⟩|⟨_,h,_⟩;omega;cases h) (fun b h=>⟨Nat.lt_of_lt_of_le (SW5.o b h).1 hs56,(SW5.o b h).2⟩) hokt2 hlt2);rw[show a1.add 1=⟨a1.block,a1.off+1,none⟩ by rw[Addr.add,if_neg (by omega)]] at hd2;clear hr2 hlt2 hokt2;rcases hcu:M.cut F u2 (M.evalE c st.m st.scopes d t1) with⟨res,u3⟩
  rw[hcu] at EX1;rw[<-HKD1.o] at hcu;have LAWB:=q_ (LAW0.o.trans (M.cut_bin_b HCU.o (by have:=HOP.o;omega) (by have:=HOP.o;rintro(⟨h1,h⟩|⟨h1,h⟩)<;>first|omega|(rw[hq] at h;cases h)) hcu));have HCU1:=q_ hcu;clear hcu;rcases res with er|v1
  ·skip
   go_wp2_with fail;refine EX1.o.mono ?_;rintro e w7 ⟨h1,h2,h3⟩;have OG7:=q_ (OG6.o.tr h1);have GB7:=q_ h2;obtain rfl:=h3;clear h1 h2 z6 zv;unfold valE panE;go_wp2;exact⟨rfl,OG7.o,by rw[LAWB.o];exact GB7.o,by rw[LAWB.o];rfl⟩
  have HV1:=q_ (show VOk v1 by
   rcases M.cut_split HCU1.o with⟨k,hr,_,_⟩|⟨_,he,_⟩
   ·rw[HKD1.o] at hr
    exact HVS.o t1 c st v1 k HO1.o.1 HP.o.vals HP.o.nowOk HP.o.tabsOk HP.o.segs hr
   ·cases he)
  go_wp2_with fail;refine EX1.o.mono ?_;rintro e w7 ⟨h1,h2,h3⟩;have OG7:=q_ (OG6.o.tr h1);have GB7:=q_ h2;obtain rfl:=h3;have RB7:=q_ (h1.blk RB6.o (by have:=HG.o;omega));have XB7:=q_ (h1.blk XB6.o HG4.o.1);have VB7:=q_ (h1.blk VB.o (by have:=HG.o;have:=OG5.o.size;omega));have B8:=q_ ((Below.refl _ w7).alloc (n_) (.cells #[.int .i64 v1.kind,.string v1.text,.int .i64 v1.num,.bool v1.truth] 37));have VB8:=q_ (Blk.new w7 37 #[.int .i64 v1.kind,.string v1.text,.int .i64 v1.num,.bool v1.truth]);clear h1 h2 z6 zv;unfold valE valV;go_upto_region 25 with fail;generalize w7.alloc (.cells #[.int .i64 v1.kind,.string v1.text,.int .i64 v1.num,.bool v1.truth] 37)=w8 at B8 VB8⊢;have RB8:=q_ (RB7.o.below B8.o RB7.o.lt);have GB8:=q_ (GB7.o.below B8.o GB7.o.lt);have OG8:=q_ (OG7.o.on B8.o);have XB8:=q_ (XB7.o.below B8.o XB7.o.lt);have VA8:=q_ (VB7.o.below B8.o VB7.o.lt);have z8:=XB8.o.cell;have zv:=VA8.o.cell;have zw:=VB8.o.cell
 ·have LAWB2:=q_ (show M.cut F u (M.evalE c st.m st.scopes (d+1) (.mk x ks))=(.ok v1,u3) by rw[LAWB.o];unfold M.binB;simp only;rw[if_pos (by have:=HOP.o;omega)])
  go_wp2_with (refine wpList_store_V rfl (.tmp 4) (.tmp 103) rfl w.heap.size (v1) (by rfl) (by rfl) RB8.o rfl ?_;intro w9 k9 g9;have K9:=q_ k9;have G9:=q_ g9;clear k9 g9)
  (try simp only[Exit.inBlock,Exit.then]);exact bodyPost_ret (val_res rfl K9.o rfl) rfl ⟨OG8.o.grown (fun h=>by omega) G9.o,by rw[LAWB2.o];exact GB8.o.grownAt G9.o (by have:=HG.o;omega),by rw[LAWB2.o];rfl⟩
 ·skip
  have LAWB2:=q_ (show M.cut F u (M.evalE c st.m st.scopes (d+1) (.mk x ks))=(M.twoV x.op v0 v1,u3) by rw[LAWB.o];unfold M.binB;simp only;rw[if_neg (by have:=HOP.o;omega)]);have KT:=q_ (fun W=>two_any x.op v0 v1 HV0.o HV1.o W);generalize M.twoV x.op v0 v1=r at KT LAWB2;go_wp2_with fail;refine(KT.o _).mono ?_
  rintro e w9' ⟨he,hb⟩;have RB9:=q_ (RB8.o.below hb RB8.o.lt);have GB9:=q_ (GB8.o.below hb GB8.o.lt);have OG9:=q_ (OG8.o.on hb);have HE:=q_ he;clear hb he z8 zv zw;cases r with
  |error er=>
   obtain rfl:=HE.o;unfold valE panE;go_wp2;exact⟨rfl,OG9.o,by rw[LAWB2.o];exact GB9.o,by rw[LAWB2.o];rfl⟩
  |ok v=>
   obtain rfl:=HE.o;unfold valE;go_wp2_with (refine wpList_store_V rfl (.tmp 4) (.tmp 108) rfl w.heap.size (v) (by rfl) (by rfl) RB9.o rfl ?_;intro w9 k9 g9;have K9:=q_ k9;have G9:=q_ g9;clear k9 g9)
   (try simp only[Exit.inBlock,Exit.then]);exact bodyPost_ret (val_res rfl K9.o rfl) rfl ⟨OG9.o.grown (fun h=>by omega) G9.o,by rw[LAWB2.o];exact GB9.o.grownAt G9.o (by have:=HG.o;omega),by rw[LAWB2.o];rfl⟩
 ·have LAWB2:=q_ (show M.cut F u (M.evalE c st.m st.scopes (d+1) (.mk x ks))=(.ok v1,u3) by rw[LAWB.o];unfold M.binB;simp only;rw[if_pos (by have:=HOP.o;omega)])
  go_wp2_with (refine wpList_store_V rfl (.tmp 4) (.tmp 103) rfl w.heap.size (v1) (by rfl) (by rfl) RB8.o rfl ?_;intro w9 k9 g9;have K9:=q_ k9;have G9:=q_ g9;clear k9 g9)
  (try simp only[Exit.inBlock,Exit.then]);exact bodyPost_ret (val_res rfl K9.o rfl) rfl ⟨OG8.o.grown (fun h=>by omega) G9.o,by rw[LAWB2.o];exact GB8.o.grownAt G9.o (by have:=HG.o;omega),by rw[LAWB2.o];rfl⟩
end Go.Proofs.YtnocnbklhikmnaaGreatDoor
