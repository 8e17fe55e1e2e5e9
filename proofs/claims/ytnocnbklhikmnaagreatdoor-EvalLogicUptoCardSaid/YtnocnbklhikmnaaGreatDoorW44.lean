/- Part 44 of the proof. -/
import Derived.Test.YtnocnbklhikmnaaGreatDoorW39
set_option linter.unusedVariables false
set_option maxRecDepth 1000000
set_option maxHeartbeats 16000000
namespace Go.Proofs.YtnocnbklhikmnaaGreatDoor
variable{a:List M.Val}{b:M.Val}{by_:ByteArray}{n:Int}{name s t:ByteArray}{v:M.Val}
section
open Go Go.RowKit Go.BigFrame Go.Maps Go.WideMaps
def CE1(kb:Nat)(w:World)(r:Except Int Int)(e:Ending)(w':World):Prop:=match r with
 | .ok k=>e= .returned (.tuple #[])/\OnlyG kb w w'/\Blk w' kb 3 #[.int .i64 k]
 | .error _=>(∃ch,e= .panicked ch/\FaultP ch)/\Below w.heap.size w w'
def CE2(kb:Nat)(w:World)(r:Except Int Int)(e:Ending)(w':World):Prop:=OnlyG kb w w'/\match r with
 | .ok k=>e= .returned (.tuple #[.int .i64 0,.int .i64 0])/\Blk w' kb 3 #[.int .i64 k]
 | .error _=>(∃k z,k≠0/\e= .returned (.tuple #[.int .i64 k,.int .i64 z]))/\Blk w' kb 3 #[.int .i64 0]
theorem cplayedE_any(a b:Addr)(kb:Nat)(w:World)(r:Except Int Int)(hkb:Blk w kb 3 #[.int .i64 0])(hdo:∀w1,Below w.heap.size w w1->Calls Tryz.prog 23 #[.pointer (some a),.pointer (some b),.pointer (some ⟨kb,0,none⟩)] w1 (CE1 kb w1 r)):
 Calls Tryz.prog 22 #[.func (.func 23) #[] #[.pointer (some a),.pointer (some b),.pointer (some ⟨kb,0,none⟩)]] w (CE2 kb w r):=by
 have hmf:∀(fn:Fn) (first cap:Array Value) (w:World),(Instr.makeFunc fn first cap).run Tryz.prog w= .ok (.func fn first cap) w:=fun _ _ _ _=>rfl;have HDO:=q_ hdo;have hkl:=hkb.lt;clear hdo;have A1:=q_ ((Blk.new w 30 #[.int .i64 0]).alloc (.cells #[.int .i64 0] 3));have C1:=q_ (Blk.new (w.alloc (.cells #[.int .i64 0] 30)) 3 #[.int .i64 0]);have s0:(w.alloc (.cells #[.int .i64 0] 30)).heap.size=w.heap.size+1:=by simp
 have s1:((w.alloc (.cells #[.int .i64 0] 30)).alloc (.cells #[.int .i64 0] 3)).heap.size=w.heap.size+2:=by simp
 have B1:=q_ (((Below.refl _ w).alloc (n_) (.cells #[.int .i64 0] 30)).alloc (by omega) (.cells #[.int .i64 0] 3));have KB1:=q_ (hkb.below B1.o hkl);rw[s0] at C1;go_enter_defers Tryz.func22,Tryz.ntmps22;go_wp2_with fail;generalize (w.alloc (.cells #[.int .i64 0] 30)).alloc (.cells #[.int .i64 0] 3)=w1 at A1 C1 s1 B1 KB1⊢;refine(HDO.o _ B1.o).mono ?_
 intro e w2 he;cases r with
 |ok k=>
  obtain⟨rfl,ht,hk2⟩:=he;have A2:=q_ (ht.blk A1.o (show¬w.heap.size=kb by omega));have C2:=q_ (ht.blk C1.o (show¬w.heap.size+1=kb by omega));have K2:=q_ hk2;have za:=A2.o.cell;have zc:=C2.o.cell;have fa:=A2.o.frozen;have fc:=C2.o.frozen;have T2:=q_ (onlyG_tr (onlyG_below B1.o:OnlyG kb w w1) ht);clear ht s0 s1 hk2;go_wp2;refine leaves_cons (f:=80) (args:=#[.pointer (some ⟨w.heap.size,0,none⟩),.pointer (some ⟨w.heap.size+1,0,none⟩)]) (by simp) (by simp[go_sem]) ?_;refine(ccatch_idle _ _ _).mono ?_
  rintro e u' w3 ⟨rfl,rfl,h3⟩;have A3:=(A2.o.one_set (.int .i64 0)).far (p:=⟨w.heap.size+1,0,none⟩) (show w.heap.size≠w.heap.size+1 by omega) (.int .i64 0);have C3:=(C2.o.far (p:=⟨w.heap.size,0,none⟩) (show w.heap.size+1≠w.heap.size by omega) (.int .i64 0)).one_set (.int .i64 0);have K3:=q_ ((K2.o.far (p:=⟨w.heap.size,0,none⟩) (show kb≠w.heap.size by omega) (.int .i64 0)).far (p:=⟨w.heap.size+1,0,none⟩) (show kb≠w.heap.size+1 by omega) (.int .i64 0));have T3:=q_ ((T2.o.grown (r:=w.heap.size) (fun h=>by omega) (grown_set w2 w.heap.size 0 (.int .i64 0))).grown (r:=w.heap.size+1) (fun h=>by omega) (grown_set _ (w.heap.size+1) 0 (.int .i64 0)));rw[<-h3] at A3 C3 T3 K3;have z1:w3.cell? ⟨w.heap.size,0,none⟩=some (.int .i64 0):=A3.cell 0;have z2:w3.cell? ⟨w.heap.size+1,0,none⟩=some (.int .i64 0):=C3.cell 0;clear h3 za zc fa fc;simp[Leaves,settle,results,Tryz.results22,go_sem,z1,z2];exact⟨T3.o,rfl,K3.o⟩
 |error er=>
  obtain⟨⟨ch,rfl,k,z,hk,rfl⟩,hb⟩:=he;have A2:=q_ (A1.o.below hb A1.o.lt);have C2:=q_ (C1.o.below hb C1.o.lt);have K2:=q_ (KB1.o.below hb KB1.o.lt);have T2:=q_ ((onlyG_below B1.o:OnlyG kb w w1).on hb);clear hb s0 s1;go_wp2;refine leaves_cons (f:=80) (args:=#[.pointer (some ⟨w.heap.size,0,none⟩),.pointer (some ⟨w.heap.size+1,0,none⟩)]) (by simp) (by simp[go_sem]) ?_;refine(ccatch_fault _ _ k z _ _ _ A2.o C2.o (by omega)).mono ?_
  rintro e u' w3 ⟨rfl,rfl,ht3,ha3,hb3⟩;have T3:=q_ (T2.o.trans (Mu':=fun q=>q=w.heap.size\/q=w.heap.size+1) ht3 (fun b hb h=>by omega));have K3:=q_ (ht3.blk K2.o (by rintro(h|h)<;>omega));have z1:w3.cell? ⟨w.heap.size,0,none⟩=some (.int .i64 k):=ha3.cell 0;have z2:w3.cell? ⟨w.heap.size+1,0,none⟩=some (.int .i64 z):=hb3.cell 0;clear ht3 ha3 hb3;simp[Leaves,settle,results,Tryz.results22,go_sem,z1,z2];exact⟨T3.o,⟨k,z,hk,rfl⟩,K3.o⟩
namespace M
def IsExpr(n:List Node)(t:Tree):Prop:=n=flat t/\wfT t/\okT 20 3 t=true/\n.length<=400
open Classical in
noncomputable def exprOf(n:List Node):Tree:=if h:∃t,IsExpr n t then Classical.choose h else .mk ⟨0,0,ByteArray.empty,0,path0⟩ []
theorem exprOf_is{n:List Node}(h:isA n 3=true):IsExpr n (exprOf n):=by
 have h2:∃t,IsExpr n t:=isA_tree n 3 h;unfold exprOf;rw[dif_pos h2];exact Classical.choose_spec h2
noncomputable def kindN(n:List Node):Except Int Int:=if isA n 3=true then kindE [] [] 20 false (exprOf n) else .error 81
end M
theorem exprC_any(g mb gb nb kb:Nat)(S:Nat->Prop)(t:M.Tree)(A:Option Addr)(c:Nat)(w:World)(h1:Blk w gb 64 #[.pointer (some ⟨g,0,none⟩)])(h2:Blk w nb 29 #[.slice A (M.flat t).length c])(h3:Blk w kb 3 #[.int .i64 0])(hT:M.okT 20 3 t=true)(hwf:M.wfT t)(hck:ChkAt w g mb 0 (fun _=>none) [] [] S)(hok:SOk A (M.flat t).length c)(hl:LAt ENode w S A (M.flat t).length (M.flat t)):
 Calls Tryz.prog 23 #[.pointer (some ⟨gb,0,none⟩),.pointer (some ⟨nb,0,none⟩),.pointer (some ⟨kb,0,none⟩)] w (CE1 kb w (M.kindE [] [] 20 false t)):=by
 have K:=q_ (expr_all 20 t false 0 g mb 0 (fun _=>none) [] [] [] S A c w hT hwf hck (fun name=>rfl) hok hl);have z1:=h1.cell;have z2:=h2.cell;have K3:=q_ h3;rw[show tnames []=[] from rfl] at K;clear h1 h2 h3 hT hwf hck hok hl;generalize M.kindE [] [] 20 false t=r at K⊢;go_enter Tryz.func23,Tryz.ntmps23;go_wp2_with fail;refine K.o.mono ?_;rintro e w2 ⟨hb,he⟩;have B2:=q_ hb;have K4:=q_ (K3.o.below hb K3.o.lt);clear hb z1 z2;cases r with
 |error x=>
  obtain⟨ch,rfl,hf⟩:=he;have HF:=q_ hf;clear hf;go_wp2;exact⟨rfl,⟨ch,rfl,HF.o⟩,B2.o⟩
 |ok k=>
  obtain rfl:=he;have c4:=K4.o.cell;have f4:=K4.o.frozen;go_wp2;go_end0;exact⟨rfl,(onlyG_below B2.o:OnlyG kb w w2).grown (fun _=>rfl) (grown_set w2 kb 0 _),K4.o.one_set _⟩
theorem results_tmp3{fn:Func}{t u v:Tmp}(h:fn.results=#[.tmp t,.tmp u,.tmp v])(tmps:Array Value)(P:Program)(w:World):
 (results fn tmps).run P w= .ok (.tuple #[tmps.getD t undef,tmps.getD u undef,tmps.getD v undef]) w:=by
 simp[results,h]
def KindP(w:World)(n:List M.Node)(e:Ending)(w':World):Prop:=Below w.heap.size w w'/\match M.kindN n with
 | .ok k=>e= .returned (.tuple #[.int .i64 k,.int .i64 0,.int .i64 0])
 | .error _=>∃er z,er≠0/\e= .returned (.tuple #[.int .i64 0,.int .i64 er,.int .i64 z])
theorem checkExpr_any(n:List M.Node)(A:Option Addr)(c:Nat)(S:Nat->Prop)(w:World)(hS:∀b,S b->b<w.heap.size)(hok:SOk A n.length c)(hl:LAt ENode w S A n.length n):
 Calls Tryz.prog 8 #[.slice A n.length c,.slice none 0 0] w (KindP w n):=by
 have hmf:∀(fn:Fn) (first cap:Array Value) (w:World),(Instr.makeFunc fn first cap).run Tryz.prog w= .ok (.func fn first cap) w:=fun _ _ _ _=>rfl;have B1:=q_ ((Below.refl _ w).alloc (n_) (.cells #[.slice A n.length c] 29));have N1:=q_ (Blk.new w 29 #[.slice A n.length c]);have s1:(w.alloc (.cells #[.slice A n.length c] 29)).heap.size=w.heap.size+1:=by simp
 have KI:=q_ (fun W (h:Below w.heap.size w W)=>isExpr_any n A c S W (fun b hb=>Nat.lt_of_lt_of_le (hS b hb) h.size) hok (hl.below h hS));have HS:=q_ hS;have HOK:=q_ hok;have HL:=q_ hl;have HKN:=q_ (show M.kindN n=if M.isA n 3=true then M.kindE [] [] 20 false (M.exprOf n) else .error 81 from rfl);clear hS hok hl;go_enter Tryz.func8,Tryz.ntmps8;go_wp2_with fail;generalize w.alloc (.cells #[.slice A n.length c] 29)=w1 at B1 N1 s1⊢;refine(KI.o _ B1.o).mono ?_
 rintro e w2 ⟨rfl,hb⟩;have B2:=q_ (B1.o.trans (hb.mono B1.o.size));have N2:=q_ (N1.o.below hb (by omega));have hs2:=hb.size;clear hb;cases hI:M.isA n 3 with
 |false=>
  have HN:=q_ (show M.kindN n= .error 81 by rw[HKN.o,if_neg (by rw[hI];simp)]);clear hI;go_wp2
  (try simp only[Exit.inBlock,Exit.then]);refine bodyPost_ret (results_tmp3 rfl _ _ _) rfl ?_;unfold KindP;rw[HN.o];exact⟨B2.o,81,0,by decide,rfl⟩
 |true=>
  have hti:=M.exprOf_is hI;have HN:=q_ (show M.kindN n=M.kindE [] [] 20 false (M.exprOf n) by rw[HKN.o,if_pos hI]);clear hI;generalize M.exprOf n=t at hti HN⊢;obtain⟨hn,hwf,hT,hlen⟩:=hti;subst hn;have HWF:=q_ hwf;have HTT:=q_ hT;clear hwf hT hlen HKN;have hmm:= @run_makeMap Tryz.prog;have M3:=q_ (show MapK (w2.alloc (.map #[] 0)) w2.heap.size (fun _=>none) from(MapT.made w2 Tryz.prog 205 encKK).congr (fun x=>rfl));have B3:=q_ (B2.o.alloc B2.o.size (.map #[] 0));have N3:=q_ (N2.o.alloc (.map #[] 0));have s3:(w2.alloc (.map #[] 0)).heap.size=w2.heap.size+1:=by simp
  have G4:=q_ (Blk.new (w2.alloc (.map #[] 0)) 67 #[.slice none 0 0,.slice none 0 0,.map (some w2.heap.size),.int .i64 0]);rw[s3] at G4;have s4:((w2.alloc (.map #[] 0)).alloc (.cells #[.slice none 0 0,.slice none 0 0,.map (some w2.heap.size),.int .i64 0] 67)).heap.size=w2.heap.size+2:=by simp
  have P5:=q_ ((Blk.new ((w2.alloc (.map #[] 0)).alloc (.cells #[.slice none 0 0,.slice none 0 0,.map (some w2.heap.size),.int .i64 0] 67)) 64 #[.pointer (some ⟨w2.heap.size+1,0,none⟩)]).alloc (.cells #[.int .i64 0] 3));rw[s4] at P5;have s5:(((w2.alloc (.map #[] 0)).alloc (.cells #[.slice none 0 0,.slice none 0 0,.map (some w2.heap.size),.int .i64 0] 67)).alloc (.cells #[.pointer (some ⟨w2.heap.size+1,0,none⟩)] 64)).heap.size=w2.heap.size+3:=by simp
  have Q5:=q_ (Blk.new (((w2.alloc (.map #[] 0)).alloc (.cells #[.slice none 0 0,.slice none 0 0,.map (some w2.heap.size),.int .i64 0] 67)).alloc (.cells #[.pointer (some ⟨w2.heap.size+1,0,none⟩)] 64)) 3 #[.int .i64 0]);rw[s5] at Q5;have G5:=q_ ((G4.o.alloc (.cells #[.pointer (some ⟨w2.heap.size+1,0,none⟩)] 64)).alloc (.cells #[.int .i64 0] 3));have B5:=q_ (show Below w2.heap.size w2 ((((w2.alloc (.map #[] 0)).alloc (.cells #[.slice none 0 0,.slice none 0 0,.map (some w2.heap.size),.int .i64 0] 67)).alloc (.cells #[.pointer (some ⟨w2.heap.size+1,0,none⟩)] 64)).alloc (.cells #[.int .i64 0] 3)) from((((Below.refl _ w2).alloc (n_) _).alloc (by omega) _).alloc (by omega) _).alloc (by omega) _);have M5:=q_ (M3.o.below (show Below (w2.alloc (.map #[] 0)).heap.size (w2.alloc (.map #[] 0)) ((((w2.alloc (.map #[] 0)).alloc (.cells #[.slice none 0 0,.slice none 0 0,.map (some w2.heap.size),.int .i64 0] 67)).alloc (.cells #[.pointer (some ⟨w2.heap.size+1,0,none⟩)] 64)).alloc (.cells #[.int .i64 0] 3)) from((((Below.refl _ (w2.alloc (.map #[] 0))).alloc (n_) _).alloc (by omega) _).alloc (by omega) _)) (by omega))
  have S2:=q_ (show w.heap.size+1<=w2.heap.size by omega);clear s1 hs2 s3 s4 s5 B3 N3;go_upto_region 5 with fail;generalize (((w2.alloc (.map #[] 0)).alloc (.cells #[.slice none 0 0,.slice none 0 0,.map (some w2.heap.size),.int .i64 0] 67)).alloc (.cells #[.pointer (some ⟨w2.heap.size+1,0,none⟩)] 64)).alloc (.cells #[.int .i64 0] 3)=w5 at P5 Q5 G5 B5 M5⊢;have BB:=q_ (B2.o.trans (B5.o.mono B2.o.size));have N5:=q_ (N2.o.below B5.o N2.o.lt);go_wp2_with fail
  refine(cplayedE_any _ _ (w2.heap.size+3) w5 (M.kindE [] [] 20 false t) Q5.o (fun W hW=>exprC_any (w2.heap.size+1) w2.heap.size (w2.heap.size+2) w.heap.size (w2.heap.size+3) S t A c W (P5.o.below hW P5.o.lt) (N5.o.below hW N5.o.lt) (Q5.o.below hW Q5.o.lt) HTT.o HWF.o
   (ChkAt.below ⟨⟨none,0,none,0,G5.o,by simp,SOk.none,LAt.nil,LAt.nil⟩,M5.o,fun b hb=>Nat.lt_of_lt_of_le (HS.o b hb) BB.o.size,by omega⟩ hW) HOK.o ((HL.o.below BB.o HS.o).below hW (fun b hb=>Nat.lt_of_lt_of_le (HS.o b hb) BB.o.size)))).mono ?_
  rintro e w6 ⟨ht,hr⟩;have hs6:=ht.size;have B6:=q_ (BB.o.trans (ht.below (B:=w.heap.size) BB.o.size (fun b hb e=>by have:=S2.o;omega)));clear ht;generalize M.kindE [] [] 20 false t=r at hr HN⊢;cases r with
  |ok k=>
   obtain⟨rfl,hk⟩:=hr;have K6:=q_ hk;have c6:=hk.cell;clear hk;go_wp2
   (try simp only[Exit.inBlock,Exit.then]);refine bodyPost_ret (results_tmp3 rfl _ _ _) rfl ?_;unfold KindP;rw[HN.o];exact⟨B6.o,rfl⟩
  |error er=>
   obtain⟨⟨k,z,hk,rfl⟩,hb⟩:=hr;have q1:(k !=0)=true:=by rw[bne_iff_ne];exact hk
   have HK:=q_ hk;have c6:=hb.cell;have f6:=hb.frozen;have B7:=q_ (B6.o.setCell (p:=⟨w2.heap.size+3,0,none⟩) (by have:=S2.o;simp;omega) (.int .i64 0));have c7:=(hb.one_set (.int .i64 0)).cell;clear hk hb;go_wp2
   (try simp only[Exit.inBlock,Exit.then]);refine bodyPost_ret (results_tmp3 rfl _ _ _) rfl ?_;unfold KindP;rw[HN.o];exact⟨B7.o,k,z,HK.o,rfl⟩
end
section
open Go Go.RowKit
theorem T_sz(l:List UInt8):(M.T l).size=l.length:=by simp[M.T,ByteArray.size]
theorem vText_ok(h:s.size<=1048576):VOk (M.vText s):=⟨h,by show(0:Int)<=0;omega,by show(0:Int)<=2147483647;omega⟩
theorem vNum_ok(h:0<=n)(h2:n<=2147483647):VOk (M.vNum n):=⟨by show ByteArray.empty.size<=1048576;decide,h,h2⟩
theorem vTruth_ok(b:Bool):VOk (M.vTruth b):=⟨by show ByteArray.empty.size<=1048576;decide,by show(0:Int)<=0;decide,by show(0:Int)<=2147483647;decide⟩
theorem vNone_ok':VOk M.vNone:=⟨by decide,by decide,by decide⟩
theorem short_ok(h:M.short s= .ok v):VOk v:=by
 unfold M.short at h;split at h
 ·cases h
 ·cases h
  exact vText_ok (by omega)
theorem turned_size(lo hi:Nat)(s:ByteArray):(M.turned lo hi s).size=s.size:=by
 unfold M.turned;rw[T_sz,List.length_map];rfl
theorem sub_size(s:ByteArray)(a n:Int):(M.sub s a n).size<=s.size:=by
 unfold M.sub;rw[T_sz,List.length_take,List.length_drop];have:(M.L s).length=s.size:=by simp[M.L]
 omega
theorem find_range(s part:ByteArray):0<=M.find s part/\M.find s part<=s.size+1:=by
 unfold M.find;have h1:=Lib.index_ge s.data.toList part.data.toList;have h2:=Lib.index_le s.data.toList part.data.toList;have:s.data.toList.length=s.size:=by simp
 unfold M.L;omega
theorem replL_size{old by_:List UInt8}:∀{k:Nat} {acc s l:List UInt8},M.replL old by_ k acc s=some l->l.length<=4096
 |0,acc,s,l,h=>by cases h
 |k+1,acc,s,l,h=>by
  unfold M.replL at h;split at h
  ·split at h
   ·cases h
   ·cases h;omega
  ·simp only at h
   split at h
   ·cases h
   ·exact replL_size h
theorem replace_size{old:ByteArray}(h:M.replace s old by_= .ok t):t.size<=4096:=by
 unfold M.replace at h;split at h
 ·split at h
  ·cases h
  ·cases h;omega
 ·split at h
  ·next l hl=>cases h;rw[T_sz];exact replL_size hl
  ·cases h
theorem pad_size(h:M.pad s n by_= .ok t):t.size<=4096:=by
 unfold M.pad at h;split at h
 ·split at h
  ·cases h
  ·cases h;omega
 ·split at h
  ·cases h
  ·cases h
   rename_i h1 h2;have h3:¬n<=(s.size:Int):=fun h=>h1 (.inl h);rw[T_sz,List.length_append];have e1:(M.padL (M.L by_) (n-s.size).toNat).length=(n-s.size).toNat:=by simp[M.padL]
   have e2:(M.L s).length=s.size:=by simp[M.L]
   omega
theorem look_value{l:List (ByteArray×ByteArray)}{k v:ByteArray}(h:M.look k l=some v):∃e∈l,e.2=v:=by
 induction l with
 |nil=>cases h
 |cons p l ih=>
  obtain⟨a,b⟩:=p;unfold M.look at h;split at h
  ·cases h;exact⟨_,List.mem_cons_self,rfl⟩
  ·obtain⟨e,he,h2⟩:=ih h
   exact⟨e,List.mem_cons_of_mem _ he,h2⟩
theorem count_le(m:M.Msg)(name:ByteArray):M.count m name<=m.segs.length:=List.length_filter_le _ _
theorem digits_size(v:Int)(h:0<=v)(h2:v<=2147483647):(P.digits v).length<=21:=by
 unfold P.digits
 have:=P.digitsN_length 20 v.natAbs 20 (by decide) (by have:v.natAbs<=2147483647:=by omega
                                                       have h3:(10:Nat)^20=100000000000000000000:=by decide
                                                       omega)
 rw[List.length_append];split<;>simp<;>omega
theorem numV_range{l:List UInt8}:0<=P.numV l/\P.numV l<=2147483647:=by
 unfold P.numV;split
 ·rename_i h
  unfold P.numOk at h;simp only[Bool.and_eq_true,decide_eq_true_eq] at h;omega
 ·omega
theorem plusV_ok{a:M.Val}(ha:VOk a)(hb:VOk b)(h:M.plusV a b= .ok v):VOk v:=by
 unfold M.plusV at h;split at h
 ·exact short_ok h
 ·split at h
  ·cases h
  ·cases h
   obtain⟨a1,a2,a3⟩:=ha;obtain⟨b1,b2,b3⟩:=hb;have hw:M.w64 (a.num+b.num)=a.num+b.num:=IntWalk.i64_in _ ⟨by omega,by omega⟩;rename_i hn;rw[hw] at hn⊢;exact vNum_ok (by omega) (by omega)
theorem twoV_ok{op:Int}{a:M.Val}(ha:VOk a)(hb:VOk b)(h:M.twoV op a b= .ok v):VOk v:=by
 unfold M.twoV at h;split at h
 ·cases h;exact vTruth_ok _
 ·split at h
  ·cases h;exact vTruth_ok _
  ·split at h
   ·cases h;exact vTruth_ok _
   ·split at h
    ·cases h;exact vTruth_ok _
    ·split at h
     ·cases h;exact vTruth_ok _
     ·split at h
      ·cases h;exact vTruth_ok _
      ·exact plusV_ok ha hb h
theorem argAt_ok(h:∀v∈a,VOk v)(i:Nat):VOk (M.argAt a i):=by
 unfold M.argAt;rw[List.getD_eq_getElem?_getD];cases hq:a[i]?with
 |none=>exact vNone_ok'
 |some v=>exact h v (List.mem_of_getElem? hq)
theorem told_ok{r:Except Int ByteArray}(hr:∀s,r= .ok s->s.size<=1048576)(h:M.told r= .ok v):VOk v:=by
 cases r with
 |error e=>cases h
 |ok s=>cases h;exact vText_ok (hr s rfl)
theorem num_ok{l:List UInt8}(h:(if P.numOk l=true then Except.ok (M.vNum (P.numV l)) else Except.error (11:Int))= .ok v):VOk v:=by
 by_cases hq:P.numOk l=true
 ·rw[if_pos hq] at h
  cases h;exact vNum_ok numV_range.1 numV_range.2
 ·rw[if_neg hq] at h
  cases h
theorem look_ok{ts:List M.Table}{key other:ByteArray}(htab:∀t∈ts,∀e∈t.entries,e.2.size<=1048576)(ho:other.size<=1048576):VOk (M.vText ((M.look key (M.tableOf ts name).entries).getD other)):=by
 refine vText_ok ?_;cases hl:M.look key (M.tableOf ts name).entries with
 |none=>exact ho
 |some s=>
  obtain⟨e,he,h2⟩:=look_value hl;show s.size<=1048576;rw[<-h2];unfold M.tableOf at he;cases hf:ts.find? (fun t=>M.eqT t.name name) with
  |none=>rw[hf] at he;cases he
  |some t=>rw[hf] at he;exact htab t (List.mem_of_find?_eq_some hf) e he
theorem callV_ok{c:M.Cx}{m:M.Msg}{x:M.Node}(ha:∀v∈a,VOk v)(hnow:c.now.size<=1048576)(htab:∀t∈c.tables,∀e∈t.entries,e.2.size<=1048576)(hseg:m.segs.length<=1048576)(h:M.callV c m name x a= .ok v):VOk v:=by
 have A:=fun i=>argAt_ok ha i;unfold M.callV at h;by_cases qnLen:M.eqT name M.nLen=true
 ·rw[if_pos qnLen] at h
  cases h;exact vNum_ok (by omega) (by have:=(A 0).text;omega)
 rw[if_neg qnLen] at h;by_cases qnUpper:M.eqT name M.nUpper=true
 ·rw[if_pos qnUpper] at h
  cases h;exact vText_ok (by rw[turned_size];exact(A 0).text)
 rw[if_neg qnUpper] at h;by_cases qnLower:M.eqT name M.nLower=true
 ·rw[if_pos qnLower] at h
  cases h;exact vText_ok (by rw[turned_size];exact(A 0).text)
 rw[if_neg qnLower] at h;by_cases qnTrim:M.eqT name M.nTrim=true
 ·rw[if_pos qnTrim] at h
  cases h;exact vText_ok (Nat.le_trans (trim_le _) (A 0).text)
 rw[if_neg qnTrim] at h;by_cases qnSub:M.eqT name M.nSub=true
 ·rw[if_pos qnSub] at h
  cases h;exact vText_ok (Nat.le_trans (sub_size _ _ _) (A 0).text)
 rw[if_neg qnSub] at h;by_cases qnFind:M.eqT name M.nFind=true
 ·rw[if_pos qnFind] at h
  cases h;have:=find_range (M.argAt a 0).text (M.argAt a 1).text;exact vNum_ok this.1 (by have:=(A 0).text;omega)
 rw[if_neg qnFind] at h;by_cases qnReplace:M.eqT name M.nReplace=true
 ·rw[if_pos qnReplace] at h
  exact told_ok (fun s hs=>Nat.le_trans (replace_size hs) (by decide)) h
 rw[if_neg qnReplace] at h;by_cases qnPad:M.eqT name M.nPad=true
 ·rw[if_pos qnPad] at h
  exact told_ok (fun s hs=>Nat.le_trans (pad_size hs) (by decide)) h
 rw[if_neg qnPad] at h;by_cases qnNumber:M.eqT name M.nNumber=true
 ·rw[if_pos qnNumber] at h
  exact num_ok h
 rw[if_neg qnNumber] at h;by_cases qnText:M.eqT name M.nText=true
 ·rw[if_pos qnText] at h
  cases h;exact vText_ok (by rw[T_sz];exact Nat.le_trans (digits_size _ (A 0).lo (A 0).hi) (by decide))
 rw[if_neg qnText] at h;by_cases qnExists:M.eqT name M.nExists=true
 ·rw[if_pos qnExists] at h
  cases h;exact vTruth_ok _
 rw[if_neg qnExists] at h;by_cases qnCount:M.eqT name M.nCount=true
 ·rw[if_pos qnCount] at h
  cases h;exact vNum_ok (by omega) (by have:=count_le m x.text;omega)
 rw[if_neg qnCount] at h;by_cases qnLookup:M.eqT name M.nLookup=true
 ·rw[if_pos qnLookup] at h
  cases h;exact look_ok htab (A 2).text
 rw[if_neg qnLookup] at h;by_cases qnHas:M.eqT name M.nHas=true
 ·rw[if_pos qnHas] at h
  cases h;exact vTruth_ok _
 rw[if_neg qnHas] at h;cases h;exact vText_ok hnow
theorem named_ok{scopes:List M.Scope}(h:∀s:M.Scope,s∈scopes->∀(n:ByteArray) (v:M.Val),s n=some v->VOk v):VOk (M.named scopes name):=by
 unfold M.named;cases hq:scopes.reverse.findSome? fun s=>s name with
 |none=>exact vNone_ok'
 |some v=>
  obtain⟨s,hs,h2⟩:=List.exists_of_findSome?_eq_some hq;exact h s (List.mem_reverse.1 hs) name v h2
theorem valsL_ok{f:M.Tree->Except Int M.Val×Nat}:∀{l:List M.Tree} {vs:List M.Val} {k:Nat},(∀t∈l,∀v k,f t=(.ok v,k)->VOk v)->M.valsL f l=(.ok vs,k)->∀v∈vs,VOk v
 |[],vs,k,_,h,v,hv=>by
  unfold M.valsL at h;cases h;cases hv
 |t::l,vs,k,hf,h,v,hv=>by
  unfold M.valsL at h;split at h
  ·cases h
  ·next u j hu=>
   split at h
   ·cases h
   ·next us i hus=>
    cases h;rcases List.mem_cons.1 hv with rfl|hv
    ·exact hf t List.mem_cons_self v j hu
    ·exact valsL_ok (fun t ht=>hf t (List.mem_cons_of_mem _ ht)) hus v hv
theorem vals_all:∀d,ValsOk d
 |0=>fun t _ _ _ _ h=>by simp[M.okT] at h
 |d+1=>fun t c st v k hT hsc hnow htab hseg h=>by
  obtain⟨x,ks⟩:=t;have ih:=vals_all d;have htop:=okT_top hT;have hkid:∀(i:Nat) (t:M.Tree),ks[i]? =some t->M.wanted x i=3->M.okT d 3 t=true:=fun i t hi hw=>by have:=okT_kid hT hi;rwa [hw] at this
  have hcls:=classOf_3 htop.1;have hw:∀i,M.wanted x i=3:=fun i=>by unfold M.wanted;rw[if_neg (by omega),if_neg (by omega)]
  have hz:M.okT d 3 (.mk ⟨0,0,ByteArray.empty,0,M.path0⟩ [])=true->False:=fun h=>by
   cases d with
   |zero=>simp[M.okT] at h
   |succ d=>have:=(okT_top h).1;simp[M.classOf] at this
  have hr:=htop.2.1;unfold M.right at hr;simp only[Bool.and_eq_true] at hr;unfold M.evalE at h;split at h
  ·cases h
   rename_i h7;refine vText_ok ?_;have:=hr.2;rw[if_neg (by omega),if_neg (by omega),if_neg (by omega),if_pos (.inr h7)] at this;simp only[decide_eq_true_eq] at this;omega
  split at h
  ·cases h
   rename_i h7 h8;have:=hr.2;rw[if_neg (by omega),if_neg (by omega),if_neg (by omega),if_neg (by omega),if_pos h8] at this;simp only[decide_eq_true_eq] at this;exact vNum_ok this.1 this.2
  split at h
  ·cases h;exact vTruth_ok _
  split at h
  ·injection h with h1 h2
   exact short_ok h1
  split at h
  ·cases h;exact named_ok hsc
  split at h
  ·split at h
   ·cases h
   ·next vs j hvs=>
    injection h with h1 h2;refine callV_ok ?_ hnow htab hseg h1
    have hall:∀v∈vs,VOk v:=valsL_ok (fun t ht v k hv=>by
     have:∃i:Nat,ks[i]? =some t:=by
      split at ht
      ·exact List.getElem?_of_mem (List.mem_of_mem_tail ht)
      ·exact List.getElem?_of_mem ht
     obtain⟨i,hi⟩:=this;exact ih t c st v k (hkid i t hi (hw i)) hsc hnow htab hseg hv) hvs
    split
    ·intro v hv
     rcases List.mem_cons.1 hv with rfl|hv
     ·exact vNone_ok'
     ·exact hall v hv
    ·exact hall
  ·have hk:∀(i:Nat) (v:M.Val) (k:Nat),i<ks.length->M.evalE c st.m st.scopes d (M.kid ks i)=(.ok v,k)->VOk v:=fun i v k hi hv=>by
    unfold M.kid at hv;rw[List.getD_eq_getElem?_getD,List.getElem?_eq_getElem hi] at hv;exact ih _ c st v k (hkid i _ (List.getElem?_eq_getElem hi) (hw i)) hsc hnow htab hseg hv
   have hleast:=right_least htop.2.1;rw[htop.2.2] at hleast
   have h0:0<ks.length:=by
    unfold M.leastN M.isBin at hleast;split at hleast
    ·omega
    ·split at hleast
     ·omega
     ·split at hleast
      ·omega
      ·rename_i h1 h2 h3
       simp at h3;omega
   have h1:x.op≠22->1<ks.length:=fun hx=>by
    unfold M.leastN M.isBin at hleast;split at hleast
    ·omega
    ·split at hleast
     ·omega
     ·split at hleast
      ·omega
      ·rename_i h1 h2 h3
       simp at h3;omega
   split at h
   ·cases h
   ·next a j ha=>
    split at h
    ·cases h;exact vTruth_ok _
    ·split at h
     ·cases h;exact hk 0 _ _ h0 ha
     ·split at h
      ·cases h
      ·next b i hb=>
       injection h with g1 g2;split at g1
       ·cases g1;exact hk 1 _ _ (h1 (by assumption)) hb
       ·exact twoV_ok (hk 0 _ _ h0 ha) (hk 1 _ _ (h1 (by assumption)) hb) g1
end
namespace M
theorem flats_inj{N:Nat}(ih:∀(t t':Tree) (r r':List Node),(flat t).length<=N->wfT t->wfT t'->flat t++r=flat t'++r'->t=t'/\r=r'):∀(ks ks':List Tree) (r r':List Node),ks.length=ks'.length->(flats ks).length<=N->wfL ks->wfL ks'->flats ks++r=flats ks'++r'->ks=ks'/\r=r'
 |[],[],r,r',_,_,_,_,h=>⟨rfl,by simpa[flats] using h⟩
 |[],_::_,_,_,h,_,_,_,_=>by simp at h
 |_::_,[],_,_,h,_,_,_,_=>by simp at h
 |t::l,t'::l',r,r',hl,hN,hw,hw',h=>by
  unfold flats at h hN;unfold wfL at hw hw';rw[List.append_assoc,List.append_assoc] at h;rw[List.length_append] at hN;obtain⟨rfl,h2⟩:=ih t t' _ _ (by omega) hw.1 hw'.1 h;obtain⟨rfl,h3⟩:=flats_inj ih l l' r r' (by simpa using hl) (by omega) hw.2 hw'.2 h2;exact⟨rfl,h3⟩
theorem flat_inj:∀(N:Nat) (t t':Tree) (r r':List Node),(flat t).length<=N->wfT t->wfT t'->flat t++r=flat t'++r'->t=t'/\r=r'
 |0,.mk x ks,_,_,_,hN,_,_,_=>by unfold flat at hN;simp at hN
 |N+1,.mk x ks,.mk x' ks',r,r',hN,hw,hw',h=>by
  unfold flat at h hN;unfold wfT at hw hw';simp only[List.cons_append,List.cons.injEq] at h;obtain⟨rfl,h⟩:=h;obtain⟨rfl,h2⟩:=flats_inj (flat_inj N) ks ks' r r' (by have:=hw.1;have:=hw'.1;omega) (by simpa using hN) hw.2 hw'.2 h;exact⟨rfl,h2⟩
theorem exprOf_eq{n:List Node}{t:Tree}(h:isA n 3=true)(hw:wfT t)(hn:n=flat t):exprOf n=t:=by
 obtain⟨h1,h2,h3,h4⟩:=exprOf_is h;exact(flat_inj _ _ _ [] [] (n_) h2 hw (by rw[List.append_nil,List.append_nil,<-h1,<-hn])).1
theorem okT_kid{d:Nat}{x:Node}{ks:List Tree}(h:okT (d+1) 3 (.mk x ks)=true){k:Tree}(hk:k∈ks):okT d 3 k=true:=by
 obtain⟨h1,h2,h3,h4⟩:=okT_inv h;have hc:=class3 h1;obtain⟨i,hi⟩:=List.getElem?_of_mem hk;have:=h4 i k hi
 rwa [wanted_3 (by omega) (by omega)] at this
theorem okT_two{d:Nat}{x:Node}{ks:List Tree}(h:okT (d+1) 3 (.mk x ks)=true)(hx:13<=x.op/\x.op<=22):1<=ks.length/\(x.op≠22->2<=ks.length):=by
 obtain⟨h1,h2,h3,h4⟩:=okT_inv h;have hl:=right_least h2;rw[h3] at hl;unfold leastN at hl;rw[if_neg (by omega)] at hl;by_cases h22:x.op=22
 ·rw[if_pos (by omega)] at hl
  exact⟨by omega,fun h=>absurd h22 h⟩
 ·rw[if_neg (by omega),if_pos (by unfold isBin;simp;omega)] at hl
  exact⟨by omega,fun _=>by omega⟩
theorem kid_mem{ks:List Tree}{i:Nat}(h:i<ks.length):kid ks i∈ks:=List.mem_of_getElem? (kid_some h)
theorem valsL_congr{f g:Tree->Except Int Val×Nat}:∀(l:List Tree),(∀t∈l,f t=g t)->valsL f l=valsL g l
 |[],_=>rfl
 |t::l,h=>by
  unfold valsL;rw[h t (List.mem_cons_self ..),valsL_congr l (fun t ht=>h t (List.mem_cons_of_mem _ ht))]
theorem kindsL_congr{f g:Tree->Except Int Int}:∀(l:List Tree),(∀t∈l,f t=g t)->kindsL f l=kindsL g l
 |[],_=>rfl
 |t::l,h=>by
  unfold kindsL;rw[h t (List.mem_cons_self ..),kindsL_congr l (fun t ht=>h t (List.mem_cons_of_mem _ ht))]
theorem evalE_up(c:Cx)(m:Msg)(sc:List Scope):∀(d:Nat) (t:Tree),okT d 3 t=true->evalE c m sc (d+1) t=evalE c m sc d t
 |0,t,h=>by simp[okT] at h
 |d+1,.mk x ks,h=>by
  have hk:∀k∈ks,evalE c m sc (d+1) k=evalE c m sc d k:=fun k hk=>evalE_up c m sc d k (okT_kid h hk);obtain⟨h1,-⟩:=okT_inv h;have hc:=class3 h1
  conv=>lhs;unfold evalE
  conv=>rhs;unfold evalE
  rw[valsL_congr (if skips x.text=true then ks.tail else ks) (fun t ht=>hk t (by
   split at ht
   ·exact List.mem_of_mem_tail ht
   ·exact ht))]
  by_cases h13:13<=x.op/\x.op<=22
  ·obtain⟨k1,k2⟩:=okT_two h h13
   rw[hk _ (kid_mem (i:=0) k1)];by_cases h22:x.op=22
   ·simp only[h22]
    rfl
   ·rw[hk _ (kid_mem (i:=1) (k2 h22))]
  ·rcases(by omega:x.op=7\/x.op=8\/x.op=9\/x.op=10\/x.op=11\/x.op=12\/x.op=23) with h|h|h|h|h|h|h<;>simp[h]
theorem kindE_up(tn:List ByteArray)(env:List (ByteArray×Int)):∀(d:Nat) (seg:Bool) (t:Tree),okT d 3 t=true->kindE tn env (d+1) seg t=kindE tn env d seg t
 |0,_,t,h=>by simp[okT] at h
 |d+1,seg,.mk x ks,h=>by
  have hk:∀b,∀k∈ks,kindE tn env (d+1) b k=kindE tn env d b k:=fun b k hk=>kindE_up tn env d b k (okT_kid h hk)
  conv=>lhs;unfold kindE
  conv=>rhs;unfold kindE
  rw[kindsL_congr _ (hk _),kindsL_congr _ (hk _)]
theorem valsL_steps{f:Tree->Except Int Val×Nat}:∀(l:List Tree),(∀t∈l,(f t).2<=(flat t).length)->(valsL f l).2<=(flats l).length
 |[],_=>by simp[valsL]
 |t::l,h=>by
  have h1:=h t (List.mem_cons_self ..);have h2:=valsL_steps l (fun t ht=>h t (List.mem_cons_of_mem _ ht));unfold valsL flats;rw[List.length_append];revert h1 h2;rcases f t with⟨r,k⟩
  rcases valsL f l with⟨r2,j⟩
  intro h1 h2;simp only at h1 h2;cases r with
  |error e=>simp only;omega
  |ok v=>
   cases r2<;>(simp only;omega)
theorem flats_two{ks:List Tree}(h:2<=ks.length):(flat (kid ks 0)).length+(flat (kid ks 1)).length<=(flats ks).length:=by
 match ks,h with
 |a::b::l,_=>simp[flats,kid]
theorem flats_one{ks:List Tree}(h:1<=ks.length):(flat (kid ks 0)).length<=(flats ks).length:=by
 match ks,h with
 |a::l,_=>simp[flats,kid]
theorem evalE_steps(c:Cx)(m:Msg)(sc:List Scope):∀(d:Nat) (t:Tree),okT d 3 t=true->(evalE c m sc d t).2<=(flat t).length
 |0,t,h=>by simp[okT] at h
 |d+1,.mk x ks,h=>by
  have hk:∀k∈ks,(evalE c m sc d k).2<=(flat k).length:=fun k hk=>evalE_steps c m sc d k (okT_kid h hk);obtain⟨h1,-⟩:=okT_inv h;have hc:=class3 h1;unfold flat;simp only[List.length_cons];by_cases h13:13<=x.op/\x.op<=22
  ·obtain⟨k1,k2⟩:=okT_two h h13
   have e0:=hk _ (kid_mem (i:=0) k1);have f1:=flats_one k1;have e1:x.op≠22->(evalE c m sc d (kid ks 1)).2<=(flat (kid ks 1)).length/\(flat (kid ks 0)).length+(flat (kid ks 1)).length<=(flats ks).length:=fun hx=>⟨hk _ (kid_mem (i:=1) (k2 hx)),flats_two (k2 hx)⟩
   unfold evalE;rw[if_neg (by omega),if_neg (by omega),if_neg (by omega),if_neg (by omega),if_neg (by omega),if_neg (by omega)];revert e0 e1;rcases evalE c m sc d (kid ks 0) with⟨r,k⟩
   rcases evalE c m sc d (kid ks 1) with⟨r2,j⟩
   intro e0 e1;simp only at e0 e1;cases r with
   |error e=>simp only;omega
   |ok a=>
    simp only;split
    ·simp only;omega
    ·split
     ·simp only;omega
     ·have:=e1 (by assumption)
      cases r2<;>(simp only;omega)
  ·have hv:(valsL (evalE c m sc d) (if skips x.text=true then ks.tail else ks)).2<=(flats ks).length:=by
    split
    ·refine Nat.le_trans (valsL_steps _ (fun t ht=>hk t (List.mem_of_mem_tail ht))) ?_
     cases ks with
     |nil=>simp[flats]
     |cons a l=>simp[flats]
    ·exact valsL_steps _ hk
   unfold evalE;revert hv;rcases valsL (evalE c m sc d) (if skips x.text=true then ks.tail else ks) with⟨r,k⟩
   intro hv;simp only at hv;rcases(by omega:x.op=7\/x.op=8\/x.op=9\/x.op=10\/x.op=11\/x.op=12\/x.op=23) with h|h|h|h|h|h|h
   all_goals try(simp[h];done)
   simp only[h];cases r<;>simp<;>omega
end M
namespace M
theorem kindsL_all{F:Tree->Except Int Int}:∀(l:List Tree) (kl:List Int),kindsL F l= .ok kl->kl.all (fun k=>decide (k=3))=true->∀t∈l,F t= .ok 3
 |[],_,_,_,t,ht=>by cases ht
 |x::l,kl,h,ha,t,ht=>by
  unfold kindsL at h;cases hx:F x with
  |error e=>rw[hx] at h;cases h
  |ok k=>
   rw[hx] at h;simp only at h;cases hl:kindsL F l with
   |error e=>rw[hl] at h;cases h
   |ok ks=>
    rw[hl] at h;simp only at h;cases h;simp at ha;rcases List.mem_cons.1 ht with rfl|ht
    ·rw[hx,ha.1]
    ·exact kindsL_all l ks hl (by simpa using ha.2) t ht
theorem twoV_truth{op:Int}{a b v:Val}(ho:15<=op/\op<=20)(h:twoV op a b= .ok v):v=vTruth v.truth:=by
 unfold twoV at h;rcases(by omega:op=15\/op=16\/op=17\/op=18\/op=19\/op=20) with e|e|e|e|e|e<;>(subst e;simp at h;subst h;rfl)
theorem call_truth{tn:List ByteArray}{x:Node}{kinds:List Int}{first:Node}(h:callE tn (look x.text fns) kinds first= .ok 3):eqT x.text nExists=true\/eqT x.text nHas=true:=by
 cases hf:look x.text fns with
 |none=>rw[hf] at h;cases h
 |some f=>
  rw[hf] at h;unfold callE at h;simp only at h
  have ht:f.tells=3:=by
   repeat' split at h
   all_goals first|(injection h with h)|cases h
  have hmem:=look_pair _ _ _ hf;generalize x.text=name at*;unfold fns at hmem;simp only[List.mem_cons,Prod.mk.injEq,List.not_mem_nil,or_false] at hmem;rcases hmem with⟨rfl,rfl⟩|⟨rfl,rfl⟩|⟨rfl,rfl⟩|⟨rfl,rfl⟩|⟨rfl,rfl⟩|⟨rfl,rfl⟩|⟨rfl,rfl⟩|⟨rfl,rfl⟩|⟨rfl,rfl⟩|⟨rfl,rfl⟩|⟨rfl,rfl⟩|⟨rfl,rfl⟩|⟨rfl,rfl⟩|⟨rfl,rfl⟩|⟨rfl,rfl⟩
  all_goals first|(exact .inl (eqT_self _))|(exact .inr (eqT_self _))|(simp at ht)
theorem callV_truth{c:Cx}{m:Msg}{name:ByteArray}{first:Node}{a:List Val}{v:Val}(hn:eqT name nExists=true\/eqT name nHas=true)(h:callV c m name first a= .ok v):v=vTruth v.truth:=by
 rcases hn with hn|hn
 ·obtain rfl:=eqT_eq hn
  unfold callV at h;rw[if_neg (by decide),if_neg (by decide),if_neg (by decide),if_neg (by decide),if_neg (by decide),if_neg (by decide),if_neg (by decide),if_neg (by decide),if_neg (by decide),if_neg (by decide),if_pos (by decide)] at h;cases h;rfl
 ·obtain rfl:=eqT_eq hn
  unfold callV at h;rw[if_neg (by decide),if_neg (by decide),if_neg (by decide),if_neg (by decide),if_neg (by decide),if_neg (by decide),if_neg (by decide),if_neg (by decide),if_neg (by decide),if_neg (by decide),if_neg (by decide),if_neg (by decide),if_neg (by decide),if_pos (by decide)] at h;cases h;rfl
theorem truth_form(c:Cx)(m:Msg):∀(d:Nat) (seg:Bool) (t:Tree),okT d 3 t=true->kindE [] [] d seg t= .ok 3->∀v k,evalE c m [] d t=(.ok v,k)->v=vTruth v.truth
 |0,_,t,h,_=>by simp[okT] at h
 |d+1,seg,.mk x ks,h,hk=>by
  intro v k he;obtain⟨h1,-⟩:=okT_inv h;have hc:=class3 h1;unfold kindE at hk;by_cases h23:x.op=23
  ·rw[if_pos h23] at hk
   split at hk
   ·cases hk
   ·rename_i kinds _
    unfold evalE at he;simp only[h23] at he;revert he;generalize valsL (evalE c m [] d) (if skips x.text=true then ks.tail else ks)=r;obtain⟨r,j⟩:=r;cases r with
    |error e=>intro he;simp at he
    |ok vs=>
     intro he;simp at he;exact callV_truth (call_truth hk) he.1
  ·rw[if_neg h23] at hk
   split at hk
   ·cases hk
   ·rename_i kinds hkinds
    unfold opE at hk;by_cases h13:13<=x.op/\x.op<=22
    ·obtain⟨k1,k2⟩:=okT_two h h13
     unfold evalE at he;rw[if_neg (by omega),if_neg (by omega),if_neg (by omega),if_neg (by omega),if_neg (by omega),if_neg (by omega)] at he;have ih:∀t∈ks,kinds.all (fun k=>decide (k=3))=true->∀v k,evalE c m [] d t=(.ok v,k)->v=vTruth v.truth:=fun t ht ha v k he=>truth_form c m d false t (okT_kid h ht) (kindsL_all ks kinds hkinds ha t ht) v k he;cases h0:evalE c m [] d (kid ks 0) with
     |mk r j=>
     rw[h0] at he;cases r with
     |error e=>simp at he
     |ok a=>
      simp only at he;by_cases h22:x.op=22
      ·rw[if_pos h22] at he
       simp at he;rw[<-he.1];rfl
      rw[if_neg h22] at he;have hk1:=k2 h22;by_cases hsh:(x.op=13/\a.truth=true)\/(x.op=14/\a.truth=false)
      ·rw[if_pos hsh] at he
       simp at he;obtain⟨rfl,-⟩:=he;rw[if_pos (by omega)] at hk;split at hk
       ·rename_i ha
        exact ih _ (kid_mem (i:=0) (by omega)) ha _ _ h0
       ·cases hk
      rw[if_neg hsh] at he;cases h2:evalE c m [] d (kid ks 1) with
      |mk r2 j2=>
      rw[h2] at he;cases r2 with
      |error e=>simp at he
      |ok b=>
       simp only at he;by_cases hor:x.op=13\/x.op=14
       ·rw[if_pos hor] at he
        simp at he;obtain⟨rfl,-⟩:=he;rw[if_pos (by omega)] at hk;split at hk
        ·rename_i ha
         exact ih _ (kid_mem (i:=1) (by omega)) ha _ _ h2
        ·cases hk
       ·rw[if_neg hor] at he
        injection he with he _;by_cases h21:x.op=21
        ·rw[if_neg (by omega),if_pos h21] at hk
         split at hk
         ·rename_i hb
          unfold both at hb;simp only[Bool.and_eq_true,Bool.or_eq_true,decide_eq_true_eq] at hb;injection hk with hk;omega
         ·cases hk
        ·exact twoV_truth (by omega) he
    ·unfold evalE at he
     rcases(by omega:x.op=7\/x.op=8\/x.op=9\/x.op=10\/x.op=11\/x.op=12) with e|e|e|e|e|e
     all_goals simp[e,look] at hk he
     all_goals first|(rw[<-he.1];rfl)|(split at hk<;>cases hk)
end M
namespace M
open Ps (orN deN opN)
theorem or_tree{x y:List Node}(hx:isA x 3=true)(hy:isA y 3=true)(ho:isA (orN x y) 3=true):
 exprOf (orN x y)= .mk (opN 13 2) [exprOf x,exprOf y]/\okT 19 3 (exprOf x)=true/\okT 19 3 (exprOf y)=true:=by
 obtain⟨e1,w1,k1,-⟩:=exprOf_is hx;obtain⟨e2,w2,k2,-⟩:=exprOf_is hy
 have hw:wfT (.mk (opN 13 2) [exprOf x,exprOf y]):=by
  unfold wfT wfL;exact⟨rfl,w1,by unfold wfL;exact⟨w2,by unfold wfL;trivial⟩⟩
 have hf:orN x y=flat (.mk (opN 13 2) [exprOf x,exprOf y]):=by
  unfold orN flat flats flats flats;rw[<-e1,<-e2,List.append_nil]
 have ht:=exprOf_eq ho hw hf;obtain⟨-,-,k3,-⟩:=exprOf_is ho;rw[ht] at k3;exact⟨ht,okT_kid k3 (by simp),okT_kid k3 (by simp)⟩
theorem de_tree{x y:List Node}(hx:isA x 3=true)(hy:isA y 3=true)(ho:isA (deN x y) 3=true):
 exprOf (deN x y)= .mk (opN 22 1) [.mk (opN 14 2) [.mk (opN 22 1) [exprOf x],.mk (opN 22 1) [exprOf y]]]/\okT 17 3 (exprOf x)=true/\okT 17 3 (exprOf y)=true:=by
 obtain⟨e1,w1,k1,-⟩:=exprOf_is hx;obtain⟨e2,w2,k2,-⟩:=exprOf_is hy
 have n1:∀t,wfT t->wfT (.mk (opN 22 1) [t]):=fun t h=>by
  unfold wfT wfL;exact⟨rfl,h,by unfold wfL;trivial⟩
 have hw:wfT (.mk (opN 22 1) [.mk (opN 14 2) [.mk (opN 22 1) [exprOf x],.mk (opN 22 1) [exprOf y]]]):=by
  refine n1 _ ?_;unfold wfT wfL;exact⟨rfl,n1 _ w1,by unfold wfL;exact⟨n1 _ w2,by unfold wfL;trivial⟩⟩
 have hf:deN x y=flat (.mk (opN 22 1) [.mk (opN 14 2) [.mk (opN 22 1) [exprOf x],.mk (opN 22 1) [exprOf y]]]):=by
  simp[deN,flat,flats,<-e1,<-e2]
 have ht:=exprOf_eq ho hw hf;obtain⟨-,-,k3,-⟩:=exprOf_is ho;rw[ht] at k3;have k4:=okT_kid k3 (k:= .mk (opN 14 2) [.mk (opN 22 1) [exprOf x],.mk (opN 22 1) [exprOf y]]) (by simp);exact⟨ht,okT_kid (okT_kid k4 (k:= .mk (opN 22 1) [exprOf x]) (by simp)) (by simp),okT_kid (okT_kid k4 (k:= .mk (opN 22 1) [exprOf y]) (by simp)) (by simp)⟩
theorem okT_up{d:Nat}:∀{t:Tree},okT d 3 t=true->okT (d+1) 3 t=true:=by
 induction d with
 |zero=>intro t h;simp[okT] at h
 |succ d ih=>
  intro t h;obtain⟨x,ks⟩:=t;have hk:=fun k (hk:k∈ks)=>ih (okT_kid h hk);obtain⟨h1,h2,h3,h4⟩:=okT_inv h;have hc:=class3 h1;unfold okT;simp only[Bool.and_eq_true,decide_eq_true_eq,List.all_eq_true];refine⟨⟨⟨h1,h2⟩,h3⟩,fun⟨k,i⟩ hki=> ?_⟩;rw[wanted_3 (by omega) (by omega)];exact hk k (List.fst_mem_of_mem_zipIdx hki)
theorem kindN_is{n:List Node}(h:isA n 3=true):kindN n=kindE [] [] 20 false (exprOf n):=by
 unfold kindN;rw[if_pos h]
theorem kindE_one{d:Nat}{t:Tree}(h:kindE [] [] d false t= .ok 3):kindE [] [] (d+1) false (.mk (opN 22 1) [t])= .ok 3:=by
 unfold kindE;simp[opN,kindsL,h,opE]
theorem kindE_two{d:Nat}{op:Int}{t u:Tree}(ho:op=13\/op=14)(h:kindE [] [] d false t= .ok 3)(h2:kindE [] [] d false u= .ok 3):kindE [] [] (d+1) false (.mk (opN op 2) [t,u])= .ok 3:=by
 unfold kindE;rcases ho with rfl|rfl<;>simp[opN,kindsL,h,h2,opE]
variable {x y:List Node} (hx:isA x 3=true) (hy:isA y 3=true) (kx:kindN x= .ok 3) (ky:kindN y= .ok 3)
include hx hy kx ky
theorem or_kind(ho:isA (orN x y) 3=true):kindN (orN x y)= .ok 3:=by
 obtain⟨ht,o1,o2⟩:=or_tree hx hy ho;rw[kindN_is hx,kindE_up [] [] 19 false _ o1] at kx;rw[kindN_is hy,kindE_up [] [] 19 false _ o2] at ky;rw[kindN_is ho,ht];exact kindE_two (.inl rfl) kx ky
theorem de_kind(ho:isA (deN x y) 3=true):kindN (deN x y)= .ok 3:=by
 obtain⟨ht,o1,o2⟩:=de_tree hx hy ho;rw[kindN_is hx,kindE_up [] [] 19 false _ (okT_up (okT_up o1)),kindE_up [] [] 18 false _ (okT_up o1),kindE_up [] [] 17 false _ o1] at kx;rw[kindN_is hy,kindE_up [] [] 19 false _ (okT_up (okT_up o2)),kindE_up [] [] 18 false _ (okT_up o2),kindE_up [] [] 17 false _ o2] at ky;rw[kindN_is ho,ht];exact kindE_one (kindE_two (.inr rfl) (kindE_one kx) (kindE_one ky))
omit hx hy kx ky
noncomputable def outN(m:Msg)(n:List Node):Except Int Val×Nat:=cut 2000 0 (evalE ⟨[],⟨#[]⟩⟩ (canon m) [] 20 (exprOf n))
theorem outN_is{m:Msg}{n:List Node}(h:isA n 3=true):outN m n=evalE ⟨[],⟨#[]⟩⟩ (canon m) [] 20 (exprOf n):=by
 obtain⟨e1,w1,k1,l1⟩:=exprOf_is h;have hs:=evalE_steps ⟨[],⟨#[]⟩⟩ (canon m) [] 20 (exprOf n) k1;rw[<-e1] at hs;unfold outN;rw[cut_le (by omega)];simp
include hx hy ky
theorem logic_law(m:Msg)(ho:isA (orN x y) 3=true)(hd:isA (deN x y) 3=true):
 (∀e,(outN m x).1= .error e->(outN m (orN x y)).1= .error e/\(outN m (deN x y)).1= .error e)/\
 (∀v,(outN m x).1= .ok v->v.truth=true->(∃r,(outN m (orN x y)).1= .ok r/\r.truth=true)/\(∃s,(outN m (deN x y)).1= .ok s/\s.truth=true)/\(outN m (orN x y)).2=(outN m x).2+1)/\
 (∀v,(outN m x).1= .ok v->v.truth=false->(∀e,(outN m y).1= .error e->(outN m (orN x y)).1= .error e/\(outN m (deN x y)).1= .error e)/\∀q,(outN m y).1= .ok q->(outN m (orN x y)).1= .ok q/\(outN m (deN x y)).1= .ok q):=by
 obtain⟨t1,o1,o2⟩:=or_tree hx hy ho;obtain⟨t2,p1,p2⟩:=de_tree hx hy hd;have hq:∀q k,evalE ⟨[],⟨#[]⟩⟩ (canon m) [] 20 (exprOf y)=(.ok q,k)->q=vTruth q.truth:=fun q k h=>truth_form _ _ 20 false _ (exprOf_is hy).2.2.1 (by rw[<-kindN_is hy];exact ky) q k h;rw[outN_is hx,outN_is hy,outN_is ho,outN_is hd,t1,t2];have u1:=evalE_up ⟨[],⟨#[]⟩⟩ (canon m) [] 19 _ o1;have u2:=evalE_up ⟨[],⟨#[]⟩⟩ (canon m) [] 19 _ o2
 have v1:evalE ⟨[],⟨#[]⟩⟩ (canon m) [] 20 (exprOf x)=evalE ⟨[],⟨#[]⟩⟩ (canon m) [] 17 (exprOf x):=by
  rw[evalE_up _ _ _ 19 _ (okT_up (okT_up p1)),evalE_up _ _ _ 18 _ (okT_up p1),evalE_up _ _ _ 17 _ p1]
 have v2:evalE ⟨[],⟨#[]⟩⟩ (canon m) [] 20 (exprOf y)=evalE ⟨[],⟨#[]⟩⟩ (canon m) [] 17 (exprOf y):=by
  rw[evalE_up _ _ _ 19 _ (okT_up (okT_up p2)),evalE_up _ _ _ 18 _ (okT_up p2),evalE_up _ _ _ 17 _ p2]
 have eo:evalE ⟨[],⟨#[]⟩⟩ (canon m) [] 20 (.mk (opN 13 2) [exprOf x,exprOf y])=match evalE ⟨[],⟨#[]⟩⟩ (canon m) [] 20 (exprOf x) with
   |(.error e,k)=>(.error e,k+1)
   |(.ok a,k)=>if a.truth=true then(.ok a,k+1) else match evalE ⟨[],⟨#[]⟩⟩ (canon m) [] 20 (exprOf y) with
    |(.error e,j)=>(.error e,k+j+1)
    |(.ok b,j)=>(.ok b,k+j+1):=by
  rw[u1,u2]
  conv=>lhs;unfold evalE
  simp only[show(opN 13 2).op=13 from rfl,show kid [exprOf x,exprOf y] 0=exprOf x from rfl,show kid [exprOf x,exprOf y] 1=exprOf y from rfl];rcases evalE ⟨[],⟨#[]⟩⟩ (canon m) [] 19 (exprOf x) with⟨r,k⟩
  rcases evalE ⟨[],⟨#[]⟩⟩ (canon m) [] 19 (exprOf y) with⟨r2,j⟩
  cases r with
  |error e=>simp
  |ok a=>cases ha:a.truth<;>cases r2<;>simp[ha]
 have ed:(evalE ⟨[],⟨#[]⟩⟩ (canon m) [] 20 (.mk (opN 22 1) [.mk (opN 14 2) [.mk (opN 22 1) [exprOf x],.mk (opN 22 1) [exprOf y]]])).1=match evalE ⟨[],⟨#[]⟩⟩ (canon m) [] 20 (exprOf x) with
   |(.error e,_)=> .error e
   |(.ok a,_)=>if a.truth=true then .ok (vTruth true) else match evalE ⟨[],⟨#[]⟩⟩ (canon m) [] 20 (exprOf y) with
    |(.error e,_)=> .error e
    |(.ok b,_)=> .ok (vTruth b.truth):=by
  rw[v1,v2]
  have en:∀(d:Nat) (t:Tree),evalE ⟨[],⟨#[]⟩⟩ (canon m) [] (d+1) (.mk (opN 22 1) [t])=match evalE ⟨[],⟨#[]⟩⟩ (canon m) [] d t with
   |(.error e,k)=>(.error e,k+1)
   |(.ok a,k)=>(.ok (vTruth (!a.truth)),k+1):=fun d t=>by
   conv=>lhs;unfold evalE
   simp only[show(opN 22 1).op=22 from rfl,show kid [t] 0=t from rfl];rcases evalE ⟨[],⟨#[]⟩⟩ (canon m) [] d t with⟨r,k⟩
   cases r<;>simp
  have ea:∀(d:Nat) (t u:Tree),evalE ⟨[],⟨#[]⟩⟩ (canon m) [] (d+1) (.mk (opN 14 2) [t,u])=match evalE ⟨[],⟨#[]⟩⟩ (canon m) [] d t with
    |(.error e,k)=>(.error e,k+1)
    |(.ok a,k)=>if a.truth=false then(.ok a,k+1) else match evalE ⟨[],⟨#[]⟩⟩ (canon m) [] d u with
     |(.error e,j)=>(.error e,k+j+1)
     |(.ok b,j)=>(.ok b,k+j+1):=fun d t u=>by
   conv=>lhs;unfold evalE
   simp only[show(opN 14 2).op=14 from rfl,show kid [t,u] 0=t from rfl,show kid [t,u] 1=u from rfl];rcases evalE ⟨[],⟨#[]⟩⟩ (canon m) [] d t with⟨r,k⟩
   rcases evalE ⟨[],⟨#[]⟩⟩ (canon m) [] d u with⟨r2,j⟩
   cases r with
   |error e=>simp
   |ok a=>cases ha:a.truth<;>cases r2<;>simp[ha]
  rw[en 19,ea 18,en 17,en 17];rcases evalE ⟨[],⟨#[]⟩⟩ (canon m) [] 17 (exprOf x) with⟨r,k⟩
  rcases evalE ⟨[],⟨#[]⟩⟩ (canon m) [] 17 (exprOf y) with⟨r2,j⟩
  cases r with
  |error e=>rfl
  |ok a=>
   cases ha:a.truth with
   |true=>simp[vTruth,ha]
   |false=>
    cases r2 with
    |error e=>simp[vTruth,ha]
    |ok b=>simp[vTruth,ha]
 rw[eo,ed];revert hq;rcases evalE ⟨[],⟨#[]⟩⟩ (canon m) [] 20 (exprOf x) with⟨r,k⟩
 rcases evalE ⟨[],⟨#[]⟩⟩ (canon m) [] 20 (exprOf y) with⟨r2,j⟩
 intro hq;refine⟨fun e h=> ?_,fun v h ht=> ?_,fun v h ht=>⟨fun e h2=> ?_,fun q h2=> ?_⟩⟩
 ·simp only at h
  subst h;exact⟨rfl,rfl⟩
 ·simp only at h
  subst h;simp[ht,vTruth]
 ·simp only at h h2
  subst h h2;simp[ht]
 ·simp only at h h2
  subst h h2;simp[ht];exact(hq q j rfl).symm
end M
end Go.Proofs.YtnocnbklhikmnaaGreatDoor
