/- Part 33 of the proof. -/
import Derived.Test.YtnocnbklhikmnaaGreatDoorW31
import Derived.Test.YtnocnbklhikmnaaGreatDoorW32
import Derived.Defers
import Derived.Recover
import Derived.Deep.DeepAppendRoom
set_option linter.unusedVariables false
set_option maxRecDepth 1000000
set_option maxHeartbeats 16000000
namespace Go.Proofs.YtnocnbklhikmnaaGreatDoor.Rk
open Go Go.RowKit
def idx1(c:Nat):List Nat->Nat->Int
 |[],_=> -1
 |x::l,i=>if x==c then i else idx1 c l (i+1)
def oIndex:List AV->St->Option (AV×St)
 |[.str x,.str [c]],s=>some (.int .i64 (idx1 c x 0),s)
 |_,_=>none
def oClone:List AV->St->Option (AV×St)
 |[.str x],s=>if x.length<1000000 then some (.str x,s) else none
 |_,_=>none
def oCheck(l:List (TypeId×Nat)):List AV->St->Option (AV×St)
 |[.ptr b 0],s=>match s.heap.get b with
  |some (.cells t (.nilp::z))=>if l.any (fun p=>t==2*p.1+1&&z.length+1==p.2) then some (.tuple [],(s.put b (.cells t (.ptr b 0::z))).note (.wr b 0 1)) else none
  |some (.cells t (.ptr b' 0::z))=>if l.any (fun p=>t==2*p.1+1&&z.length+1==p.2)/\b'=b then some (.tuple [],s.note (.rd b 0 1)) else none
  |_=>none
 |_,_=>none
def countA(c:Nat):List Nat->Nat
 |[]=>0
 |x::l=>if x=c then countA c l+1 else countA c l
def oCount:List AV->St->Option (AV×St)
 |[.str l,.str [c]],s=>some (.int .i64 (Int.ofNat (countA c l)),s)
 |_,_=>none
def oIndexByte:List AV->St->Option (AV×St)
 |[.str l,.int .u8 (.ofNat c)],s=>if c<256 then some (.int .i64 (idx1 c l 0),s) else none
 |_,_=>none
def oSealed(k1 k2 v:AV):List AV->St->Option (AV×St)
 |[],s=>some (.map s.n,s.new (.pmap [⟨k1,v,0⟩,⟨k2,v,1⟩]))
 |_,_=>none
section
variable {P:Program} {ρ:Env} {T:Nat->Nat->Prop} {s s':St} {w w':World}
theorem Post.below(h:Good ρ T s.heap.get w)(hs:s'.heap=s.heap)(hn:s'.n=s.n)(hw:Below w.heap.size w w'):Post ρ T s w ρ s' w':=by
 have hk:∀b r,ρ b=some r->w'.heap[r.blk]? =w.heap[r.blk]? :=fun b r hb=>hw.block _ (h.old b r hb);refine⟨Env.le_refl ρ,fun b r h=> .inl h,fun b r h1 h2 _=>(nomatch (h1.symm.trans h2)),?_,⟨hw.os,hw.tape,hw.output,hw.size,fun B hB _=>hw.block B hB,fun B c t fr hc _=>⟨c,(hw.block B (lt_of_some hc)).trans hc,rfl,fun _ _=>rfl⟩⟩⟩;rw[hn,Tn_same];exact⟨fun b x hb hT=>by rw[hs] at hb;exact(h.sat b x hb hT).mono (Env.le_refl ρ) (fun _ h=>h) (fun r hr=>hk b r hr),fun b b' r r' x x' hx hx' hl hl' ht ht' hr hr' e=>by rw[hs] at hx hx';exact h.inj b b' r r' x x' hx hx' hl hl' ht ht' hr hr' e,fun b r hb=>Nat.lt_of_lt_of_le (h.old b r hb) hw.size⟩
def Told1(P:Program)(f:FuncId)(g:List AV->St->Option (AV×St)):Prop:=∀args s v s',g args s=some (v,s')->WfS s->Mono s s'/\∀(ρ:Env) (T:Nat->Nat->Prop) (w:World) (vs:Array Value),Pre ρ T s s' w->VRL ρ args vs.toList->
 Calls P f vs w (fun e w'=>∃ρ',Post ρ T s w ρ' s' w'/\ResR ρ' (.ret v) e)
theorem vrl1{x:AV}{vs:Array Value}(h:VRL ρ [x] vs.toList):∃x',vs=#[x']/\VR ρ x x':=by
 rcases vs with⟨l⟩
 cases h with
 |cons _ x' _ _ hx ht=>cases ht;exact⟨x',rfl,hx⟩
theorem vrl2{x y:AV}{vs:Array Value}(h:VRL ρ [x,y] vs.toList):∃x' y',vs=#[x',y']/\VR ρ x x'/\VR ρ y y':=by
 rcases vs with⟨l⟩
 cases h with
 |cons _ x' _ _ hx ht=>cases ht with
  |cons _ y' _ _ hy ht=>cases ht;exact⟨x',y',rfl,hx,hy⟩
theorem idx1_eq(c:Nat)(hc:c<256):∀(l:List Nat) (i:Nat),(∀x∈l,x<256)->idx1 c l i=if Lib.indexByte (l.map UInt8.ofNat) (UInt8.ofNat c)= -1 then-1 else Lib.indexByte (l.map UInt8.ofNat) (UInt8.ofNat c)+i
 |[],i,_=>by simp[idx1,Lib.indexByte]
 |x::l,i,h=>by
  have ih:=idx1_eq c hc l (i+1) (fun y hy=>h y (List.mem_cons_of_mem _ hy));have hx:=h x (List.mem_cons_self ..);have hge:=Lib.indexByte_ge (l.map UInt8.ofNat) (UInt8.ofNat c)
  have he:(UInt8.ofNat x==UInt8.ofNat c)=(x==c):=by
   rw[Bool.eq_iff_iff];simp only[beq_iff_eq];constructor
   ·intro e
    have:=congrArg UInt8.toNat e;simpa[UInt8.toNat_ofNat',Nat.mod_eq_of_lt hx,Nat.mod_eq_of_lt hc] using this
   ·intro e;rw[e]
  unfold idx1;simp only[List.map_cons,Lib.indexByte,he];by_cases h1:x==c
  ·simp[h1]
  ·simp only[h1,if_false,Bool.false_eq_true,ih,beq_iff_eq]
   by_cases h2:Lib.indexByte (l.map UInt8.ofNat) (UInt8.ofNat c)= -1
   ·simp[h2]
   ·simp only[h2,if_false]
    rw[if_neg (by omega)]
    push_cast
    omega
theorem told_index{f:FuncId}(K:∀(s:ByteArray) (c:UInt8) (w:World),Calls P f #[.string s,.string ⟨#[c]⟩] w fun e w'=>e= .returned (.int .i64 (Lib.indexByte s.data.toList c))/\w'=w):Told1 P f oIndex:=by
 intro args s v s' h hwf;unfold oIndex at h;split at h
 ·rename_i s0 x c
  cases h;refine⟨Mono.refl _,fun ρ T w vs hp hargs=> ?_⟩;obtain⟨x',y',rfl,hx,hy⟩:=vrl2 hargs;cases hx with
  |str _ hxl=>
  cases hy with
  |str _ hyl=>
  refine(K ⟨(x.map UInt8.ofNat).toArray⟩ (UInt8.ofNat c) w).mono ?_
  rintro e w' ⟨rfl,rfl⟩;refine⟨ρ,Post.refl hp,?_⟩;have:=idx1_eq c (hyl c (by simp)) x 0 hxl;rw[this];simp only[Int.natCast_zero,Int.add_zero];by_cases h2:Lib.indexByte (x.map UInt8.ofNat) (UInt8.ofNat c)= -1
  ·rw[if_pos h2]
   show VR ρ _ (.int .i64 (Lib.indexByte (x.map UInt8.ofNat).toArray.toList (UInt8.ofNat c)));rw[List.toList_toArray,h2];exact .int _ _
  ·rw[if_neg h2]
   exact .int _ _
 ·cases h
theorem told_clone{f:FuncId}(K:∀(s:ByteArray) (w:World),s.size<=281474976710656->Calls P f #[.string s] w fun e w'=>e= .returned (.string s)/\Below w.heap.size w w'):Told1 P f oClone:=by
 intro args s v s' h hwf;unfold oClone at h;split at h
 ·rename_i s0 x
  split at h
  ·rename_i hl
   cases h;refine⟨Mono.refl _,fun ρ T w vs hp hargs=> ?_⟩;obtain⟨x',rfl,hx⟩:=vrl1 hargs;cases hx with
   |str _ hxl=>
   refine(K ⟨(x.map UInt8.ofNat).toArray⟩ w (by simp[ByteArray.size];omega)).mono ?_
   rintro e w' ⟨rfl,hb⟩;exact⟨ρ,Post.below hp.good rfl rfl hb,.str x hxl⟩
  ·cases h
 ·cases h
theorem told_check{f:FuncId}{l:List (TypeId×Nat)}(K1:∀(b:Nat) (w:World),w.cell? ⟨b,0,none⟩=some (.pointer (some ⟨b,0,none⟩))->Calls P f #[.pointer (some ⟨b,0,none⟩)] w fun e w'=>e= .returned (.tuple #[])/\w'=w)(K2:∀(p:TypeId×Nat),p∈l->∀(b:Nat) (w:World),w.cell? ⟨b,0,none⟩=some (.pointer none)->w.shape? b=some (p.1,p.2)->w.frozen? ⟨b,0,none⟩=false->Calls P f #[.pointer (some ⟨b,0,none⟩)] w fun e w'=>e= .returned (.tuple #[])/\w'=w.setCell ⟨b,0,none⟩ (.pointer (some ⟨b,0,none⟩))):Told1 P f (oCheck l):=by
 intro args s v s' h hwf;unfold oCheck at h;split at h
 ·rename_i s0 b
  split at h
  ·rename_i t z hb
   split at h
   ·rename_i ht
    obtain⟨p,hpl,hpt⟩:=List.any_eq_true.1 ht;simp only[Bool.and_eq_true,beq_iff_eq] at hpt;obtain⟨ht,hz⟩:=hpt;subst ht;cases h;refine⟨Mono.write (off:=0) (n:=1) _ _ hb rfl (fun i hi=> ?_),fun ρ T w vs hp hargs=> ?_⟩
    ·cases i with
     |zero=>omega
     |succ i=>rfl
    ·obtain⟨x',rfl,hx⟩:=vrl1 hargs
     cases hx with
     |ptr _ _ r hr=>
     have hT0:T b 0:=hp.cov (.wr b 0 1) (List.mem_cons_self ..) (lt_n hwf hb) b 0 ⟨rfl,n_,Nat.lt_succ_self _⟩;obtain⟨r0,c,fr,q1,q2,q3,q4,q5,q6⟩:=hp.good.sat b _ hb ⟨0,hT0⟩;have:r0=r:=Option.some.inj (q1.symm.trans hr);subst this;obtain⟨x1,x2⟩:=q4.2 (by omega);have hrn:r0.n=z.length+1:=by simpa using x2
     have hcs:c.size=p.2:=by omega
     rw[two_half1] at q2;have hat:r0.at 0=⟨r0.blk,0,none⟩:=by unfold RB.at;rw[x1]
     obtain⟨u,hu,hR⟩:=q6 0 .nilp rfl hT0;cases hR;rw[x1] at hu;have hcell:w.cell? ⟨r0.blk,0,none⟩=some (.pointer none):=by rw[cell_in q2];exact hu
     have hfz:w.frozen? ⟨r0.blk,0,none⟩=false:=by
      simp only[World.frozen?,q2];exact q5 0 (by omega) (by omega)
     rw[hat];refine(K2 p hpl r0.blk w hcell (by simp[World.shape?,q2,hcs]) hfz).mono ?_
     rintro e w' ⟨rfl,rfl⟩;obtain⟨m1,m2,m3⟩:=heap_modify q2 0 (.pointer (some ⟨r0.blk,0,none⟩));refine⟨ρ,Post.write (n:=1) hp.good hb ⟨0,hT0⟩ hr (c:=c) (c':=c.setIfInBounds 0 (.pointer (some ⟨r0.blk,0,none⟩))) (by rw[two_half1];exact q2) ⟨rfl,rfl,rfl,m3,by rw[two_half1];exact m1,m2⟩ (by simp) (fun o ho=> ?_) (Nat.lt_succ_self _) rfl (fun i a ha hTi=> ?_),.tuple _ _ .nil⟩
     ·rw[Array.getElem?_setIfInBounds_ne (by omega)]
     ·rw[x1,Nat.zero_add]
      match i,ha with
      |0,ha=>
       cases ha;refine⟨_,by rw[Array.getElem?_setIfInBounds_self_of_lt (by omega)],?_⟩;have:=VR.ptr (ρ:=ρ) b 0 r0 hr
       rwa [hat] at this
      |i+1,ha=>
       obtain⟨u1,g1,g2⟩:=q6 (i+1) a ha hTi;rw[x1] at g1;exact⟨u1,by rw[Array.getElem?_setIfInBounds_ne (by omega)];simpa using g1,g2⟩
   ·cases h
  ·rename_i t b' z hb
   split at h
   ·rename_i ht
    obtain⟨ht,hbb⟩:=ht;obtain⟨p,hpl,hpt⟩:=List.any_eq_true.1 ht;simp only[Bool.and_eq_true,beq_iff_eq] at hpt;obtain⟨ht,hz⟩:=hpt;subst ht hbb;cases h;refine⟨Mono.note _ _ ⟨_,hb,trivial⟩,fun ρ T w vs hp hargs=> ?_⟩;obtain⟨x',rfl,hx⟩:=vrl1 hargs;cases hx with
    |ptr _ _ r hr=>
    have hT0:=hp.cov (.rd _ 0 1) (List.mem_cons_self ..) (lt_n hwf hb) _ 0 ⟨rfl,n_,Nat.lt_succ_self _⟩;obtain⟨r0,c,fr,q1,q2,q3,q4,q5,q6⟩:=hp.good.sat _ _ hb ⟨0,hT0⟩;have:r0=r:=Option.some.inj (q1.symm.trans hr);subst this;obtain⟨x1,x2⟩:=q4.2 (by omega);have hat:r0.at 0=⟨r0.blk,0,none⟩:=by unfold RB.at;rw[x1]
    obtain⟨u,hu,hR⟩:=q6 0 _ rfl hT0;cases hR with
    |ptr _ _ r1 hr1=>
    have:r1=r0:=Option.some.inj (hr1.symm.trans hr);subst this;rw[x1,hat] at hu;rw[hat];refine(K1 r1.blk w (by rw[cell_in q2];exact hu)).mono ?_
    rintro e w' ⟨rfl,rfl⟩;exact⟨ρ,Post.same hp.good rfl rfl (Still.refl _),.tuple _ _ .nil⟩
   ·cases h
  ·cases h
 ·cases h
theorem count_ok(c:Nat)(hc:c<256):∀l:List Nat,(∀x∈l,x<256)->Lib.countByte (l.map UInt8.ofNat) (UInt8.ofNat c)=countA c l
 |[],_=>rfl
 |x::l,h=>by
  have ih:=count_ok c hc l (fun y hy=>h y (List.mem_cons_of_mem _ hy));have hx:=h x (List.mem_cons_self ..);unfold Lib.countByte at ih⊢;rw[List.map_cons,List.count_cons,ih,show countA c (x::l)=if x=c then countA c l+1 else countA c l from rfl]
  have he:(UInt8.ofNat x==UInt8.ofNat c)=decide (x=c):=by
   rw[Bool.eq_iff_iff];simp only[beq_iff_eq,decide_eq_true_eq];constructor
   ·intro e
    have:=congrArg UInt8.toNat e;simpa[UInt8.toNat_ofNat',Nat.mod_eq_of_lt hx,Nat.mod_eq_of_lt hc] using this
   ·intro e;rw[e]
  rw[he];by_cases h1:x=c<;>simp[h1]
theorem told_count{f:FuncId}(K:∀(s:ByteArray) (c:UInt8) (w:World),Calls P f #[.string s,.string ⟨#[c]⟩] w fun e w'=>e= .returned (.int .i64 (Lib.countByte s.data.toList c))/\w'=w):Told1 P f oCount:=by
 intro args s v s' h hwf;unfold oCount at h;split at h
 ·rename_i s0 x c
  cases h;refine⟨Mono.refl _,fun ρ T w vs hp hargs=> ?_⟩;obtain⟨x',y',rfl,hx,hy⟩:=vrl2 hargs;cases hx with
  |str _ hxl=>
  cases hy with
  |str _ hyl=>
  refine(K ⟨(x.map UInt8.ofNat).toArray⟩ (UInt8.ofNat c) w).mono ?_
  rintro e w' ⟨rfl,rfl⟩;refine⟨ρ,Post.refl hp,?_⟩;rw[show Lib.countByte (⟨(x.map UInt8.ofNat).toArray⟩:ByteArray).data.toList (UInt8.ofNat c)=countA c x by rw[List.toList_toArray];exact count_ok c (hyl c (by simp)) x hxl];exact .int _ _
 ·cases h
theorem told_indexbyte{f:FuncId}(K:∀(s:ByteArray) (c:Int) (w:World),Calls P f #[.string s,.int .u8 c] w fun e w'=>e= .returned (.int .i64 (Lib.indexByte s.data.toList c.toNat.toUInt8))/\w'=w):Told1 P f oIndexByte:=by
 intro args s v s' h hwf;unfold oIndexByte at h;split at h
 ·rename_i s0 x c
  split at h
  ·rename_i hc
   cases h;refine⟨Mono.refl _,fun ρ T w vs hp hargs=> ?_⟩;obtain⟨x',y',rfl,hx,hy⟩:=vrl2 hargs;cases hx with
   |str _ hxl=>
   cases hy;refine(K ⟨(x.map UInt8.ofNat).toArray⟩ (Int.ofNat c) w).mono ?_
   rintro e w' ⟨rfl,rfl⟩;refine⟨ρ,Post.refl hp,?_⟩;have:=idx1_eq c hc x 0 hxl;rw[this];simp only[Int.natCast_zero,Int.add_zero];have hcc:(Int.ofNat c).toNat.toUInt8=UInt8.ofNat c:=rfl;by_cases h2:Lib.indexByte (x.map UInt8.ofNat) (UInt8.ofNat c)= -1
   ·rw[if_pos h2]
    show VR ρ _ (.int .i64 (Lib.indexByte (x.map UInt8.ofNat).toArray.toList (Int.ofNat c).toNat.toUInt8));rw[List.toList_toArray,hcc,h2];exact .int _ _
   ·rw[if_neg h2]
    show VR ρ _ (.int .i64 (Lib.indexByte (x.map UInt8.ofNat).toArray.toList (Int.ofNat c).toNat.toUInt8));rw[List.toList_toArray,hcc];exact .int _ _
  ·cases h
 ·cases h
end
section
variable {P:Program} {ρ:Env} {T:Nat->Nat->Prop} {s s':St} {w w':World}
theorem Told1.toT{f:FuncId}{g:List AV->St->Option (AV×St)}(hP:plainFuncs P=true)(hb:(P.funcs[f]?).any (·.body.isSome)=true)(h:Told1 P f g):ToldT P f g:=by
 intro args s v s' hg hwf;obtain⟨m,k⟩:=h args s v s' hg hwf;refine⟨m,fun ρ T w vs hp hargs=>⟨fun w1=> ?_,fun n=>callsIn_wide.2 (k ρ T w vs hp hargs)⟩⟩;cases hfn:P.funcs[f]?with
 |none=>rw[hfn] at hb;cases hb
 |some fn=>
  rw[hfn] at hb;obtain⟨c,hc⟩:=Option.isSome_iff_exists.1 (by simpa using hb);exact enters hP hfn hc vs w1
theorem TSound.none:TSound P (fun _=>none):=fun f g h=>by cases h
theorem told_sealed{f:FuncId}{k1 k2 v0:AV}{k1' k2' v':Value}(h1:∀ρ,VR ρ k1 k1')(h2:∀ρ,VR ρ k2 k2')(h3:∀ρ,VR ρ v0 v')(K:∀w:World,Calls P f #[] w fun e w'=>e= .returned (.map (some w.heap.size))/\∃l:Array MapEntry,Add w w' (.map l 2)/\(l=#[⟨k1',v',0⟩,⟨k2',v',1⟩]\/l=#[⟨k2',v',0⟩,⟨k1',v',1⟩])):Told1 P f (oSealed k1 k2 v0):=by
 intro args s v s' h hwf;unfold oSealed at h;split at h
 ·cases h
  refine⟨Mono.new _ _,fun ρ T w vs hp hargs=> ?_⟩
  have hvs:vs=#[]:=by
   rcases vs with⟨l⟩
   cases hargs;rfl
  subst hvs;have hf:ρ s.n=none:=hp.fresh s.n (n_) (Nat.lt_succ_self _);refine(K w).mono ?_
  rintro e w' ⟨rfl,l,hA,hl⟩;refine⟨_,Post.made (o:= .map l 2) (r:=⟨w.heap.size,0,0⟩) hp.good hp.wf hf hp.tn hA rfl ?_,VR.map s.n _ (Env.add_self _ _)⟩;rcases hl with rfl|rfl
  ·exact⟨_,_,[⟨k1,v0,0⟩,⟨k2,v0,1⟩],2,Env.add_self _ _,hA.here,List.Perm.refl _,.cons _ _ _ _ (h1 _) (.cons _ _ _ _ (h2 _) .nil),.cons _ _ _ _ (h3 _) (.cons _ _ _ _ (h3 _) .nil)⟩
  ·exact⟨_,_,[⟨k2,v0,1⟩,⟨k1,v0,0⟩],2,Env.add_self _ _,hA.here,List.Perm.swap _ _ _,.cons _ _ _ _ (h2 _) (.cons _ _ _ _ (h1 _) .nil),.cons _ _ _ _ (h3 _) (.cons _ _ _ _ (h3 _) .nil)⟩
 ·cases h
end
end Go.Proofs.YtnocnbklhikmnaaGreatDoor.Rk
namespace Go.Proofs.YtnocnbklhikmnaaGreatDoor
section
open Go Go.Proofs Go.Proofs.YtnocnbklhikmnaaGreatDoor.Rk Go.Proofs.YtnocnbklhikmnaaGreatDoor.Tell
theorem plain_:plainFuncs Tryz.prog=true:=by kernel_rfl
theorem mixed_:Tryz.prog.follows .mixedOrders=true:=by kernel_rfl
theorem t_sealed:ToldT Tryz.prog 274 (oSealed (placeA 1) (placeA 2) (.agg [])):=(told_sealed (k1':=placeV 1) (k2':=placeV 2) (v':= .agg #[]) (fun ρ=>(place_ok 1).mono (fun b r h=>by cases h)) (fun ρ=>(place_ok 2).mono (fun b r h=>by cases h)) (fun ρ=> .agg _ _ .nil) Tell.sealed_any).toT plain_ (by kernel_rfl)
theorem t_check:ToldT Tryz.prog 126 (oCheck [(117,2)]):=(told_check check_used check_fresh_any).toT plain_ (by kernel_rfl)
theorem t_indexbyte:ToldT Tryz.prog 108 oIndexByte:=(told_indexbyte Tryz.strings_IndexByte).toT plain_ (by kernel_rfl)
theorem t_count:ToldT Tryz.prog 184 oCount:=(told_count Tryz.strings_Count_one).toT plain_ (by kernel_rfl)
theorem t_clone:ToldT Tryz.prog 110 oClone:=(told_clone Tryz.stringslite_Clone).toT plain_ (by kernel_rfl)
theorem t_index:ToldT Tryz.prog 185 oIndex:=(told_index Tryz.strings_Index_one).toT plain_ (by kernel_rfl)
noncomputable def told0:Rk.Told:=addT (addT (addT (addT (addT (addT (fun _=>none) 274 (oSealed (placeA 1) (placeA 2) (.agg []))) 108 oIndexByte) 184 oCount) 126 (oCheck [(117,2)])) 110 oClone) 185 oIndex
theorem told0_ok:TSound Tryz.prog told0:=((((((TSound.none).add t_sealed).add t_indexbyte).add t_count).add t_check).add t_clone).add t_index
end
namespace Ps
def rp:Tk:=⟨5,[41],0⟩
def lp:Tk:=⟨5,[40],0⟩
def tOr:Tk:=⟨1,wOr,0⟩
def tAnd:Tk:=⟨1,wAnd,0⟩
def tNot:Tk:=⟨1,wNot,0⟩
theorem split_ne{t:Tk}{r xs:List Tk}(h:t::r=xs++[endT])(hk:t.kind≠0):∃xs',xs=t::xs'/\r=xs'++[endT]:=by
 cases xs with
 |nil=>
  injection h with h1 h2;rw[h1] at hk;exact absurd rfl hk
 |cons x xs=>
  injection h with h1 h2;exact⟨xs,by rw[h1],h2⟩
theorem rp_word(k:Nat):isW rp (word k)=false:=by rcases k with _|_|k<;>rfl
theorem R.ext{c:Cat}{ws:List Tk}{res:Res}(h:R c ws res):∀n rs,res=some (n,rs)->∀xs,ws=xs++[endT]->∃ys,rs=ys++[endT]/\∀Z,R c (xs++rp::Z) (some (n,ys++rp::Z)):=by
 induction h with
 |bin0|more1|not0|cmp0|cmp2|par0|par1|bad|arg0|arg2=>intro n rs h;cases h
 |bin1 _ _ ih1 ih2=>
  intro n2 rs h xs hx;obtain⟨y1,h1,k1⟩:=ih1 _ _ rfl xs hx;obtain⟨y2,h2,k2⟩:=ih2 _ _ h y1 h1;exact⟨y2,h2,fun Z=> .bin1 (k1 Z) (k2 Z)⟩
 | @more0 k acc t r hw=>
   intro n2 rs h xs hx;cases h;refine⟨xs,hx,fun Z=> ?_⟩;cases xs with
   |nil=>exact .more0 (rp_word k)
   |cons x xs=>
    injection hx with h1 h2;subst h1;exact .more0 hw
 |more2 hw _ _ ih1 ih2=>
  intro n2 rs h xs hx;obtain⟨x1,rfl,hr⟩:=split_ne hx (isW_ne hw);obtain⟨y1,h1,k1⟩:=ih1 _ _ rfl x1 hr;obtain⟨y2,h2,k2⟩:=ih2 _ _ h y1 h1;exact⟨y2,h2,fun Z=> .more2 hw (k1 Z) (k2 Z)⟩
 |not1 hw _ ih=>
  intro n2 rs h xs hx;obtain⟨x1,rfl,hr⟩:=split_ne hx (isW_ne hw);obtain⟨y1,h1,k1⟩:=ih _ _ h x1 hr;exact⟨y1,h1,fun Z=> .not1 hw (k1 Z)⟩
 | @not2 j t r n r2 hw _ ih=>
   intro n2 rs h xs hx;cases h;obtain⟨y1,h1,k1⟩:=ih _ _ rfl xs hx;refine⟨y1,h1,fun Z=> ?_⟩;cases xs with
   |nil=>exact .not2 rfl (k1 Z)
   |cons x xs=>
    injection hx with h1 h2;subst h1;exact .not2 hw (k1 Z)
 | @cmp1 ws a t r _ hc ih=>
   intro n2 rs h xs hx;cases h;obtain⟨y1,h1,k1⟩:=ih _ _ rfl xs hx;refine⟨y1,h1,fun Z=> ?_⟩;cases y1 with
   |nil=>exact .cmp1 (k1 Z) (by decide)
   |cons x y1=>
    injection h1 with h1 h2;subst h1;exact .cmp1 (k1 Z) hc
 |cmp3 _ hc _ ih1 ih2=>
  intro n2 rs h xs hx;cases h;obtain⟨y1,h1,k1⟩:=ih1 _ _ rfl xs hx;obtain⟨x1,rfl,hr⟩:=split_ne h1 (cmp_ne hc);obtain⟨y2,h2,k2⟩:=ih2 _ _ rfl x1 hr;exact⟨y2,h2,fun Z=> .cmp3 (k1 Z) hc (k2 Z)⟩
 |leaf hl=>
  intro n2 rs h xs hx;cases h;obtain⟨x1,rfl,hr⟩:=split_ne hx (leaf_ne hl);exact⟨x1,hr,fun Z=> .leaf hl⟩
 |par2 hl hw _ hw2 ih=>
  intro n2 rs h xs hx;cases h;obtain⟨x1,rfl,hr⟩:=split_ne hx (isW_ne hw);obtain⟨y1,h1,k1⟩:=ih _ _ rfl x1 hr;obtain⟨x2,rfl,hr2⟩:=split_ne h1 (isW_ne hw2);exact⟨x2,hr2,fun Z=> .par2 hl hw (k1 Z) hw2⟩
 | @name t t2 r hl hw hn hw2=>
   intro n2 rs h xs hx;cases h;obtain⟨x1,rfl,hr⟩:=split_ne hx (name_ne hn);refine⟨x1,hr,fun Z=> ?_⟩;cases x1 with
   |nil=>exact .name hl hw hn rfl
   |cons x xs=>
    injection hr with h1 h2;subst h1;exact .name hl hw hn hw2
 |call0 hl hw hn hw2 hw3=>
  intro n2 rs h xs hx;cases h;obtain⟨x1,rfl,hr⟩:=split_ne hx (name_ne hn);obtain⟨x2,rfl,hr2⟩:=split_ne hr (isW_ne hw2);obtain⟨x3,rfl,hr3⟩:=split_ne hr2 (isW_ne hw3);exact⟨x3,hr3,fun Z=> .call0 hl hw hn hw2 hw3⟩
 | @call1 t t2 t3 r res hl hw hn hw2 hw3 harg ih=>
   intro n2 rs h xs hx;obtain⟨x1,rfl,hr⟩:=split_ne hx (name_ne hn);obtain⟨x2,rfl,hr2⟩:=split_ne hr (isW_ne hw2);obtain⟨y1,h1,k1⟩:=ih _ _ h x2 hr2;cases x2 with
   |nil=>
    obtain⟨-,z2,-,z4⟩:=harg.size trivial _ _ h;have:=(z4 ⟨[],hr2,fun t h=>by cases h⟩).ne;have e:=congrArg List.length hr2;have z2:rs.length+1<=(t3::r).length:=z2;simp only[List.nil_append,List.length_singleton] at e;omega
   |cons x x2=>
    injection hr2 with e1 e2;subst e1;exact⟨y1,h1,fun Z=> .call1 hl hw hn hw2 hw3 (k1 Z)⟩
 |arg1 _ hw ih=>
  intro n2 rs h xs hx;cases h;obtain⟨y1,h1,k1⟩:=ih _ _ rfl xs hx;obtain⟨x1,rfl,hr⟩:=split_ne h1 (isW_ne hw);exact⟨x1,hr,fun Z=> .arg1 (k1 Z) hw⟩
 |arg3 _ hw hw2 _ ih1 ih2=>
  intro n2 rs h xs hx;obtain⟨y1,h1,k1⟩:=ih1 _ _ rfl xs hx;obtain⟨x1,rfl,hr⟩:=split_ne h1 (isW_ne hw2);obtain⟨y2,h2,k2⟩:=ih2 _ _ h x1 hr;exact⟨y2,h2,fun Z=> .arg3 (k1 Z) hw hw2 (k2 Z)⟩
theorem in_par{xs:List Tk}{n:Ns}(h:R (.bin 0) (xs++[endT]) (some (n,[endT])))(Z:List Tk):R .unit (lp::(xs++rp::Z)) (some (n,Z)):=by
 obtain⟨ys,h1,h2⟩:=h.ext _ _ rfl xs rfl
 obtain rfl:ys=[]:=by
  cases ys with
  |nil=>rfl
  |cons y ys=>simp at h1
 exact .par2 rfl rfl (h2 Z) rfl
def Quiet(t:Tk):Prop:=isW t [43]=false/\cmpI t<0
theorem lift{ws:List Tk}{n:Ns}{t:Tk}{r:List Tk}(h:R .unit ws (some (n,t::r)))(hq:Quiet t):R .cmp ws (some (n,t::r)):=by
 refine .cmp1 (.bin1 (k:=2) h ?_) hq.2;have:=R.more0 (k:=2) (acc:=[n]) (r:=r) hq.1;simpa[build] using this
theorem lift_not{s t:Tk}{q r:List Tk}{n:Ns}(h:R .cmp (s::q) (some (n,t::r)))(hs:isW s wNot=false):R (.nots 0) (s::q) (some (n,t::r)):=by
 have:=R.not2 (j:=0) hs h;simpa using this
theorem lift_nots{s t:Tk}{q r:List Tk}{n:Ns}(h:R .cmp (s::q) (some (n,t::r)))(hs:isW s wNot=false):R (.nots 0) (tNot::s::q) (some (opN 22 1::n,t::r)):=by
 have:=R.not1 (j:=0) (t:=tNot) rfl (R.not2 (j:=1) hs h);simpa using this
theorem lift_and{ws:List Tk}{n:Ns}{t:Tk}{r:List Tk}(h:R (.nots 0) ws (some (n,t::r)))(ht:isW t wAnd=false):R (.bin 1) ws (some (n,t::r)):=by
 refine .bin1 (k:=1) h ?_;have:=R.more0 (k:=1) (acc:=[n]) (r:=r) ht;simpa[build] using this
theorem lift_or{ws:List Tk}{n:Ns}{t:Tk}{r:List Tk}(h:R (.bin 1) ws (some (n,t::r)))(ht:isW t wOr=false):R (.bin 0) ws (some (n,t::r)):=by
 refine .bin1 (k:=0) h ?_;have:=R.more0 (k:=0) (acc:=[n]) (r:=r) ht;simpa[build] using this
theorem join_or{xa xb:List Tk}{x y:Ns}(ha:R (.bin 0) (xa++[endT]) (some (x,[endT])))(hb:R (.bin 0) (xb++[endT]) (some (y,[endT]))):
 R (.bin 0) (lp::(xa++rp::tOr::lp::(xb++[rp,endT]))) (some (opN 13 2::(x++y),[endT])):=by
 refine .bin1 (k:=0) (lift_and (lift_not (lift (in_par ha _) (by exact⟨rfl,by decide⟩)) rfl) rfl) ?_;refine .more2 (t:=tOr) rfl (lift_and (lift_not (lift (in_par hb [endT]) (by exact⟨rfl,by decide⟩)) rfl) rfl) ?_;have:=R.more0 (k:=0) (acc:=[x]++[y]) (t:=endT) (r:=[]) rfl;simpa[build,opOf] using this
theorem join_de{xa xb:List Tk}{x y:Ns}(ha:R (.bin 0) (xa++[endT]) (some (x,[endT])))(hb:R (.bin 0) (xb++[endT]) (some (y,[endT]))):
 R (.bin 0) (tNot::lp::tNot::lp::(xa++rp::tAnd::tNot::lp::(xb++[rp,rp,endT]))) (some (opN 22 1::opN 14 2::((opN 22 1::x)++(opN 22 1::y)),[endT])):=by
 have h1:R (.bin 0) (tNot::lp::(xa++rp::tAnd::tNot::lp::(xb++[rp,rp,endT]))) (some (opN 14 2::((opN 22 1::x)++(opN 22 1::y)),[rp,endT])):=by
  refine lift_or ?_ rfl;refine .bin1 (k:=1) (lift_nots (lift (in_par ha _) (by exact⟨rfl,by decide⟩)) rfl) ?_;refine .more2 (t:=tAnd) rfl (lift_nots (lift (in_par hb [rp,endT]) (by exact⟨rfl,by decide⟩)) rfl) ?_;have:=R.more0 (k:=1) (acc:=[opN 22 1::x]++[opN 22 1::y]) (t:=rp) (r:=[endT]) rfl;simpa[build,opOf] using this
 exact lift_or (lift_and (lift_nots (lift (.par2 (t:=lp) rfl rfl h1 rfl) (by exact⟨rfl,by decide⟩)) rfl) rfl) rfl
end Ps
section
open Go Go.RowKit Go.BigFrame Go.Maps Go.WideMaps
theorem frame_is{c:Code}{Q:Exit->Act->World->Prop}{t t':Array Value}{d:List Deferred}{w:World}(h:t=t')(g:Code.wp Tryz.prog c Q {tmps:=t',defers:=d} w):Code.wp Tryz.prog c Q {tmps:=t,defers:=d} w:=h▸g
theorem ccatch_idle(a b:Addr)(w:World):CallsD Tryz.prog 80 #[.pointer (some a),.pointer (some b)] .returning w fun e u' w'=>e= .returned (.tuple #[])/\u'= .returning/\w'=w:=by
 refine callsD_of_wpS Tryz.func80 rfl fun c₀ cs hu=> ?_;apply wpS_seq;apply wpS_region;simp[wpOpsS,go_sem,recoverD,hu,Tryz.ntmps80,Exit.thenS];refine wpS_of_wp ?_;refine frame_is (t':=#[.pointer (some a),.pointer (some b),.nilIface,undef,undef,.nilIface,undef,undef,undef,undef,undef,undef,undef,undef,undef,undef,undef,undef,undef,undef]) (by kernel_rfl) ?_;go_wp2;cases c₀;simp_all [bodyPostS,results,Tryz.results80]
structure PutTwo(W0:World)(a b:Nat)(T1 T2:TypeId)(u1 u2:Value)(L:Nat->Bool)(vs:Nat->Value)(w:World):Prop where
 turns:Turns (fun q=>q=a\/q=b) W0 w
 ka:∃v,Blk w a T1 #[v]/\(L 4=true->v=u1)
 kb:∃v,Blk w b T2 #[v]/\(L 5=true->v=u2)
section
variable {W0 w:World} {a b:Nat} {T1 T2:TypeId} {u1 u2 x y:Value} {L:Nat->Bool} {vs:Nat->Value}
theorem PutTwo.start(ha:Blk W0 a T1 #[x])(hb:Blk W0 b T2 #[y]):PutTwo W0 a b T1 T2 u1 u2 (fun _=>false) vs {W0 with drawn:=W0.drawn+1}:=
 ⟨⟨rfl,rfl,rfl,n_,fun _ _ _=>rfl⟩,⟨x,ha,fun h=>by cases h⟩,⟨y,hb,fun h=>by cases h⟩⟩
theorem PutTwo.pure(h:PutTwo W0 a b T1 T2 u1 u2 L vs w){k:Nat}{v:Value}(hk:k≠4)(hk2:k≠5):PutTwo W0 a b T1 T2 u1 u2 (upd L k) (updv vs k v) w:=by
 have e4:upd L k 4=L 4:=by simp[upd,Ne.symm hk]
 have e5:upd L k 5=L 5:=by simp[upd,Ne.symm hk2]
 exact⟨h.turns,by rw[e4];exact h.ka,by rw[e5];exact h.kb⟩
theorem PutTwo.put4(h:PutTwo W0 a b T1 T2 u1 u2 L vs w)(hne:a≠b):PutTwo W0 a b T1 T2 u1 u2 (upd L 4) (updv vs 4 undef) (w.setCell ⟨a,0,none⟩ u1):=by
 obtain⟨x,k1,_⟩:=h.ka;obtain⟨y,k2,k3⟩:=h.kb;exact⟨h.turns.trans (Mu':=fun q=>q=a) ((Turns.refl _ w).grown (fun _=>rfl) (grown_set w a 0 u1)) (fun b _ h=> .inl h),⟨u1,k1.one_set u1,fun _=>rfl⟩,⟨y,k2.far (fun e=>hne e.symm) _,k3⟩⟩
theorem PutTwo.put5(h:PutTwo W0 a b T1 T2 u1 u2 L vs w)(hne:a≠b):PutTwo W0 a b T1 T2 u1 u2 (upd L 5) (updv vs 5 undef) (w.setCell ⟨b,0,none⟩ u2):=by
 obtain⟨x,k1,k3⟩:=h.ka;obtain⟨y,k2,_⟩:=h.kb;exact⟨h.turns.trans (Mu':=fun q=>q=b) ((Turns.refl _ w).grown (fun _=>rfl) (grown_set w b 0 u2)) (fun b _ h=> .inr h),⟨x,k1.far hne _,k3⟩,⟨u2,k2.one_set u2,fun _=>rfl⟩⟩
end
theorem fault_is(v:Value)(W:World):(Instr.typeAssert (.iface 141 v) 20 141 true).run Tryz.prog W= .ok (.tuple #[v,.bool true]) W:=by kernel_rfl
theorem ccatch_fault(a b:Nat)(k z:Int)(x y:Value)(w:World)(ha:Blk w a 30 #[x])(hb:Blk w b 3 #[y])(hne:a≠b):
 CallsD Tryz.prog 80 #[.pointer (some ⟨a,0,none⟩),.pointer (some ⟨b,0,none⟩)] (.panicking [{v:= .iface 141 (.agg #[.int .i64 k,.int .i64 z]),recovered:=false}]) w fun e u' w'=>
  e= .returned (.tuple #[])/\u'= .panicking [{v:= .iface 141 (.agg #[.int .i64 k,.int .i64 z]),recovered:=true}]/\Turns (fun q=>q=a\/q=b) w w'/\Blk w' a 30 #[.int .i64 k]/\Blk w' b 3 #[.int .i64 z]:=by
 refine callsD_of_wpS Tryz.func80 rfl fun c₀ cs hu=> ?_;have HA:=q_ ha;have HB:=q_ hb;clear ha hb;apply wpS_seq;apply wpS_region;simp[wpOpsS,go_sem,recoverD,hu,Tryz.ntmps80,Exit.thenS];refine wpS_of_wp ?_;refine frame_is (t':=#[.pointer (some ⟨a,0,none⟩),.pointer (some ⟨b,0,none⟩),.iface 141 (.agg #[.int .i64 k,.int .i64 z]),undef,undef,.iface 141 (.agg #[.int .i64 k,.int .i64 z]),undef,undef,undef,undef,undef,undef,undef,undef,undef,undef,undef,undef,undef,undef]) (by kernel_rfl) ?_;have hta:=fault_is (.agg #[.int .i64 k,.int .i64 z]);have K1:=q_ (Blk.new w 141 #[.int .i64 k,.int .i64 z]);have B1:=q_ ((Below.refl _ w).alloc (n_) (.cells #[.int .i64 k,.int .i64 z] 141));go_wp2_with fail;have B4:=q_ B1.o;have A4:=q_ (HA.o.below B4.o HA.o.lt);have C4:=q_ (HB.o.below B4.o HB.o.lt);have hwa:a≠w.heap.size:=fun e=>by have:=HA.o.lt;omega
 have hwb:b≠w.heap.size:=fun e=>by have:=HB.o.lt;omega
 have hs1:(w.alloc (.cells #[.int .i64 k,.int .i64 z] 141)).heap.size=w.heap.size+1:=by simp
 generalize w.alloc (.cells #[.int .i64 k,.int .i64 z] 141)=w1 at K1 B1 B4 A4 C4 hs1⊢;refine wp_region_genP (KP:=fun _ _=>False) 6 [] (PutTwo w1 a b 30 3 (.int .i64 k) (.int .i64 z)) (by kernel_rfl) (by kernel_rfl) (PutTwo.start A4.o C4.o) (fun ch a2 w5 hd hk=>hk.elim) ?_
 iterate 6
  apply wpGenP_pure rfl
  ·intro L vs wx hI hR hL K hK
   first
   |have c0:=fun i=>(hI.turns.blk K1.o (by rintro(e|e)<;>omega)).cell i
    go_simp;exact hK _ (hI.pure (by decide) (by decide))
   |obtain⟨v0,hv0,-⟩:=hI.ka
    have c0:=fun i=>hv0.cell i;have f0:=fun i=>hv0.frozen i;go_simp;exact hK _ (hI.put4 hne)
   |obtain⟨v0,hv0,-⟩:=hI.kb
    have c0:=fun i=>hv0.cell i;have f0:=fun i=>hv0.frozen i;go_simp;exact hK _ (hI.put5 hne)
  intro KK hKK;go_simp;refine hKK _ ?_;clear hKK KK
 refine wpGenP_nil ?_;intro vs w5 hI;intro KK hKK;have hKN:=fun a w h=>hKK .normal a w h;simp only[List.drop_succ_cons,List.drop_nil];obtain⟨h1,⟨v1,h2,h3⟩,⟨v2,h4,h5⟩⟩:=hI;obtain rfl:=h3 (by decide);obtain rfl:=h5 (by decide);have T5:=q_ ((Turns.of (Mu:=fun q=>q=a\/q=b) B4.o).trans h1 (fun _ _ h=>h));clear hu h1 h3 h5;go_wp2_with fail;simp[bodyPostS,results,Tryz.results80];exact⟨T5.o,h2,h4⟩
theorem look_pair{β:Type}(key:ByteArray):∀(l:List (ByteArray×β)) (v:β),M.look key l=some v->(key,v)∈l
 |[],v,h=>by simp[M.look] at h
 |(k,u)::l,v,h=>by
  unfold M.look at h;split at h
  ·rename_i hk
   cases h;rw[eqT_iff_] at hk;rw[hk];exact List.mem_cons_self
  ·exact List.mem_cons_of_mem _ (look_pair key l v h)
theorem kindsL_mem(F:M.Tree->Except Int Int):∀(l:List M.Tree) (kl:List Int),M.kindsL F l= .ok kl->∀(j:Nat) (t:M.Tree),l[j]? =some t->∃k,F t= .ok k
 |[],kl,h,j,t,hj=>by simp at hj
 |x::l,kl,h,j,t,hj=>by
  unfold M.kindsL at h;split at h
  ·cases h
  ·next k hk=>
   split at h
   ·cases h
   ·next ks hks=>
    cases j with
    |zero=>simp at hj;subst hj;exact⟨k,hk⟩
    |succ j=>exact kindsL_mem F l ks hks j t (by simpa using hj)
theorem call_facts{tn:List ByteArray}{env:List (ByteArray×Int)}{d:Nat}{seg:Bool}{x:M.Node}{ks:List M.Tree}{k:Int}(h:x.op=23)(hk:M.kindE tn env (d+1) seg (.mk x ks)= .ok k):
 ∃f,M.look x.text M.fns=some f/\ks.length=f.args.length/\(f.table=true->M.hasT tn (M.headX ks).text=true)/\∀(j:Nat) (t:M.Tree),ks[j]? =some t->∃seg k,M.kindE tn env d seg t= .ok k:=by
 unfold M.kindE at hk;rw[if_pos h] at hk;split at hk
 ·cases hk
 ·next kinds hkinds=>
  unfold M.callE at hk;split at hk
  ·cases hk
  ·next f hf=>
   refine⟨f,hf,?_,?_,fun j t hj=> ?_⟩
   ·have h1:=kindsL_len _ _ _ hkinds
    split at hk
    ·cases hk
    ·next hne=>rw[<-h1];exact congrArg List.length (Classical.not_not.1 hne)
   ·intro ht
    split at hk
    ·cases hk
    ·split at hk
     ·cases hk
     ·split at hk
      ·cases hk
      ·split at hk
       ·cases hk
       ·next hh=>
        cases hq:M.hasT tn (M.headX ks).text with
        |true=>rfl
        |false=>exact absurd ⟨ht,hq⟩ hh
   ·obtain⟨k,hk⟩:=kindsL_mem _ _ _ hkinds j t hj
    exact⟨_,k,hk⟩
theorem args_of{w:World}{ab:Nat}{sv:Value}{a:List M.Val}(hab:Blk w ab 216 #[sv])(ho:OwnE EVal 37 w 0 NoB sv a)(h1:1<=a.length)(hm:a.length<=1048576)(hv:∀v∈a,VOk v):∃ga cp,Args w ab ga a.length cp a:=by
 rcases ho.form with⟨_,e⟩|⟨g,cp,rfl,_,hlt,hcap,_⟩
 ·rw[e] at h1;simp at h1
 ·refine⟨g,cp,hab,rfl,fun i v hi=> ?_,hv,hlt⟩
  have hr:=ho.reads (S':=fun b=>b=g) (fun b hb=>hb.elim) (fun b hb=>by simp[Value.ownBlock] at hb;exact hb.symm) hm;obtain⟨A,c,e,hok,hl⟩:=Enc.list_inv (E:=EVal) hr;injection e with e1 e2 e3;subst e1;have hi2:i<a.length:=(List.getElem?_eq_some_iff.1 hi).1;obtain⟨ad,y,cs,e4,hb,hy,hr2,hc⟩:=hl.in_ hi2;cases e4;rw[hi] at hy;cases hy;obtain⟨rfl,-⟩:=hr2;have c1:=hc 1 _ rfl;have c2:=hc 2 _ rfl;rw[Addr.add_lit,Nat.zero_add] at c1 c2;exact⟨c1,c2⟩
def fnV(n:FuncId)(caps:List Nat):Value:= .func (.func n) #[] (caps.map fun b=>Value.pointer (some ⟨b,0,none⟩)).toArray
def fnLst(pb fb ab:Nat):List (ByteArray×Value):=
 [(M.nNow,fnV 172 [pb]),(M.nHas,fnV 170 [pb,fb,ab]),(M.nLookup,fnV 167 [pb,fb,ab]),(M.nCount,fnV 165 [pb,fb]),(M.nExists,fnV 163 [pb,fb]),
  (M.nText,fnV 161 [ab]),(M.nNumber,fnV 158 [ab]),(M.nPad,fnV 156 [ab]),(M.nReplace,fnV 153 [ab]),(M.nFind,fnV 151 [ab]),
  (M.nSub,fnV 149 [ab]),(M.nTrim,fnV 147 [ab]),(M.nLower,fnV 145 [ab]),(M.nUpper,fnV 143 [ab]),(M.nLen,fnV 142 [ab])]
theorem disp_any(g pb fb ab:Nat)(Mu S:Nat->Prop)(cx:M.Cx)(st:M.St)(p:PV)(bs:List Nat)(F u:Nat)(name:ByteArray)(x:M.Node)(f:M.Fn)(sv:Value)(a:List M.Val)(w:World)(hf:M.look name M.fns=some f)(hlen:a.length=f.args.length)(htab:f.table=true->M.hasT (tnames cx.tables) x.text=true)(hpb:Blk w pb 71 #[.pointer (some ⟨g,0,none⟩)])(hfb:Blk w fb 144 #[.int .i64 x.op,.int .i64 x.n,.string x.text,.int .i64 x.num,.string x.path.seg,.int .i64 x.path.occ,.int .i64 x.path.fld,.int .i64 x.path.rep,.int .i64 x.path.comp,.int .i64 x.path.sub])(hgb:Blk w g 77 #[.int .u8 (p.d.f.toNat:Int),.int .u8 (p.d.c.toNat:Int),.int .u8 (p.d.r.toNat:Int),.int .u8 (p.d.e.toNat:Int),.int .u8 (p.d.s.toNat:Int),p.v,p.tv,.string p.now,.int .i64 (F:Nat),.int .i64 (u:Nat),p.rv,.bool p.stop,p.sv])(hp:PlIn w g Mu S cx st p bs)(hx:x.ok64)(hab:Blk w ab 216 #[sv])(ho:OwnE EVal 37 w 0 NoB sv a)(hv:∀v∈a,VOk v):
 ∃fid caps,assoc name (fnLst pb fb ab)=some (.func (.func fid) #[] caps)/\Enters Tryz.prog fid/\Calls Tryz.prog fid caps w fun e w'=>e=valE (M.callV cx st.m name x a)/\Below w.heap.size w w':=by
 have hmem:=look_pair _ _ _ hf;have hm:a.length<=1048576:=by rw[hlen];have:=(fns_facts hf).1;omega
 obtain⟨m1,-,mx,m3⟩:=hp.mx;have hargs:=fun(h1:1<=a.length)=>args_of hab ho h1 hm hv;unfold M.fns at hmem;simp only[List.mem_cons,Prod.mk.injEq,List.not_mem_nil,or_false] at hmem;rcases hmem with⟨rfl,rfl⟩|⟨rfl,rfl⟩|⟨rfl,rfl⟩|⟨rfl,rfl⟩|⟨rfl,rfl⟩|⟨rfl,rfl⟩|⟨rfl,rfl⟩|⟨rfl,rfl⟩|⟨rfl,rfl⟩|⟨rfl,rfl⟩|⟨rfl,rfl⟩|⟨rfl,rfl⟩|⟨rfl,rfl⟩|⟨rfl,rfl⟩|⟨rfl,rfl⟩
 ·obtain⟨ga,cp,hA⟩:=hargs (by rw[hlen];decide)
  exact⟨_,_,rfl,fun _ _=>rfl,cl1_any a ab ga _ cp w hA (by rw[hlen];decide)⟩
 ·obtain⟨ga,cp,hA⟩:=hargs (by rw[hlen];decide)
  exact⟨_,_,rfl,fun _ _=>rfl,cl2_any a ab ga _ cp w hA (by rw[hlen];decide)⟩
 ·obtain⟨ga,cp,hA⟩:=hargs (by rw[hlen];decide)
  exact⟨_,_,rfl,fun _ _=>rfl,cl3_any a ab ga _ cp w hA (by rw[hlen];decide)⟩
 ·obtain⟨ga,cp,hA⟩:=hargs (by rw[hlen];decide)
  exact⟨_,_,rfl,fun _ _=>rfl,cl4_any a ab ga _ cp w hA (by rw[hlen];decide)⟩
 ·obtain⟨ga,cp,hA⟩:=hargs (by rw[hlen];decide)
  exact⟨_,_,rfl,fun _ _=>rfl,cl5_any a ab ga _ cp w hA (by rw[hlen];decide)⟩
 ·obtain⟨ga,cp,hA⟩:=hargs (by rw[hlen];decide)
  exact⟨_,_,rfl,fun _ _=>rfl,cl6_any a ab ga _ cp w hA (by rw[hlen];decide) mx m1 m3⟩
 ·obtain⟨ga,cp,hA⟩:=hargs (by rw[hlen];decide)
  exact⟨_,_,rfl,fun _ _=>rfl,cl7_any a ab ga _ cp w hA (by rw[hlen];decide) mx m1 m3⟩
 ·obtain⟨ga,cp,hA⟩:=hargs (by rw[hlen];decide)
  exact⟨_,_,rfl,fun _ _=>rfl,cl8_any a ab ga _ cp w hA (by rw[hlen];decide)⟩
 ·obtain⟨ga,cp,hA⟩:=hargs (by rw[hlen];decide)
  exact⟨_,_,rfl,fun _ _=>rfl,cl9_any a ab ga _ cp w hA (by rw[hlen];decide)⟩
 ·obtain⟨ga,cp,hA⟩:=hargs (by rw[hlen];decide)
  exact⟨_,_,rfl,fun _ _=>rfl,cl10_any a ab ga _ cp w hA (by rw[hlen];decide)⟩
 ·exact⟨_,_,rfl,fun _ _=>rfl,cl11_any g pb fb Mu S cx st p bs F u x w hpb hfb hgb hp hx⟩
 ·exact⟨_,_,rfl,fun _ _=>rfl,cl12_any g pb fb Mu S cx st p bs F u x w hpb hfb hgb hp hx⟩
 ·obtain⟨ga,cp,hA⟩:=hargs (by rw[hlen];decide)
  exact⟨_,_,rfl,fun _ _=>rfl,cl13_any g pb fb Mu S cx st p bs F u x a ab ga _ cp w hpb hfb hgb hp hx hA (by rw[hlen];decide) (htab rfl)⟩
 ·obtain⟨ga,cp,hA⟩:=hargs (by rw[hlen];decide)
  exact⟨_,_,rfl,fun _ _=>rfl,cl14_any g pb fb Mu S cx st p bs F u x a ab ga _ cp w hpb hfb hgb hp hx hA (by rw[hlen];decide) (htab rfl)⟩
 ·exact⟨_,_,rfl,fun _ _=>rfl,cl15_any g pb fb Mu S cx st p bs F u x w hpb hfb hgb hp hx⟩
namespace M
theorem short_err{s:ByteArray}{e:Int}(h:short s= .error e):e≠0:=by
 unfold short at h;split at h
 ·cases h;decide
 ·cases h
theorem replace_err{s a b:ByteArray}{e:Int}(h:replace s a b= .error e):e≠0:=by
 unfold replace at h;split at h
 ·split at h
  ·cases h;decide
  ·cases h
 ·split at h
  ·cases h
  ·cases h;decide
theorem pad_err{s:ByteArray}{n:Int}{b:ByteArray}{e:Int}(h:pad s n b= .error e):e≠0:=by
 unfold pad at h;split at h
 ·split at h
  ·cases h;decide
  ·cases h
 ·split at h
  ·cases h;decide
  ·cases h
theorem told_err{r:Except Int ByteArray}{e:Int}(h:told r= .error e):r= .error e:=by
 cases r with
 |ok s=>cases h
 |error k=>cases h;rfl
theorem plusV_err{a b:Val}{e:Int}(h:plusV a b= .error e):e≠0:=by
 unfold plusV at h;split at h
 ·exact short_err h
 ·split at h
  ·cases h;decide
  ·cases h
theorem twoV_err{op:Int}{a b:Val}{e:Int}(h:twoV op a b= .error e):e≠0:=by
 unfold twoV at h
 iterate 6 (split at h;cases h)
 exact plusV_err h
theorem callV_err{c:Cx}{m:Msg}{name:ByteArray}{first:Node}{a:List Val}{e:Int}(h:callV c m name first a= .error e):e≠0:=by
 unfold callV at h;by_cases c:eqT name nLen=true
 ·rw[if_pos c] at h;cases h
 rw[if_neg c] at h;clear c;by_cases c:eqT name nUpper=true
 ·rw[if_pos c] at h;cases h
 rw[if_neg c] at h;clear c;by_cases c:eqT name nLower=true
 ·rw[if_pos c] at h;cases h
 rw[if_neg c] at h;clear c;by_cases c:eqT name nTrim=true
 ·rw[if_pos c] at h;cases h
 rw[if_neg c] at h;clear c;by_cases c:eqT name nSub=true
 ·rw[if_pos c] at h;cases h
 rw[if_neg c] at h;clear c;by_cases c:eqT name nFind=true
 ·rw[if_pos c] at h;cases h
 rw[if_neg c] at h;clear c;by_cases c:eqT name nReplace=true
 ·rw[if_pos c] at h;exact replace_err (told_err h)
 rw[if_neg c] at h;clear c;by_cases c:eqT name nPad=true
 ·rw[if_pos c] at h;exact pad_err (told_err h)
 rw[if_neg c] at h;clear c;by_cases c:eqT name nNumber=true
 ·rw[if_pos c] at h
  by_cases c2:P.numOk (L (argAt a 0).text)=true
  ·rw[if_pos c2] at h;cases h
  ·rw[if_neg c2] at h;cases h;decide
 rw[if_neg c] at h;clear c;by_cases c:eqT name nText=true
 ·rw[if_pos c] at h;cases h
 rw[if_neg c] at h;clear c;by_cases c:eqT name nExists=true
 ·rw[if_pos c] at h;cases h
 rw[if_neg c] at h;clear c;by_cases c:eqT name nCount=true
 ·rw[if_pos c] at h;cases h
 rw[if_neg c] at h;clear c;by_cases c:eqT name nLookup=true
 ·rw[if_pos c] at h;cases h
 rw[if_neg c] at h;clear c;by_cases c:eqT name nHas=true
 ·rw[if_pos c] at h;cases h
 rw[if_neg c] at h;clear c;cases h
theorem valsL_err{f:Tree->Except Int Val×Nat}(hf:∀t e k,f t=(.error e,k)->e≠0):∀(l:List Tree) (e:Int) (k:Nat),valsL f l=(.error e,k)->e≠0
 |[],e,k,h=>by unfold valsL at h;cases h
 |t::l,e,k,h=>by
  unfold valsL at h;cases hq:f t with
  |mk r j=>
  rw[hq] at h;cases r with
  |error e1=>simp only at h;injection h with h1 h2;cases h1;exact hf t _ j hq
  |ok v=>
   simp only at h;cases hl:valsL f l with
   |mk r2 j2=>
   rw[hl] at h;cases r2 with
   |error e1=>simp only at h;injection h with h1 h2;cases h1;exact valsL_err hf l _ j2 hl
   |ok vs=>simp only at h;injection h with h1 h2;cases h1
theorem evalE_err(c:Cx)(m:Msg)(scopes:List Scope):∀(d:Nat) (t:Tree) (e:Int) (k:Nat),evalE c m scopes d t=(.error e,k)->e≠0
 |0,t,e,k,h=>by unfold evalE at h;injection h with h1 h2;cases h1;decide
 |d+1,.mk x ks,e,k,h=>by
  unfold evalE at h
  iterate 3 (split at h;·(injection h with h1 h2;cases h1))
  split at h
  ·injection h with h1 h2;exact short_err h1
  split at h
  ·injection h with h1 h2;cases h1
  split at h
  ·cases hv:valsL (evalE c m scopes d) (if skips x.text=true then ks.tail else ks) with
   |mk r j=>
   rw[hv] at h;cases r with
   |error e1=>simp only at h;injection h with h1 h2;cases h1;exact valsL_err (evalE_err c m scopes d) _ _ j hv
   |ok vs=>simp only at h;injection h with h1 h2;exact callV_err h1
  ·cases h0:evalE c m scopes d (kid ks 0) with
   |mk r j=>
   rw[h0] at h;cases r with
   |error e1=>simp only at h;injection h with h1 h2;cases h1;exact evalE_err c m scopes d _ _ j h0
   |ok a=>
    simp only at h;split at h
    ·injection h with h1 h2;cases h1
    split at h
    ·injection h with h1 h2;cases h1
    cases h3:evalE c m scopes d (kid ks 1) with
    |mk r2 j2=>
    rw[h3] at h;cases r2 with
    |error e1=>simp only at h;injection h with h1 h2;cases h1;exact evalE_err c m scopes d _ _ j2 h3
    |ok b=>
     simp only at h;injection h with h1 h2;split at h1
     ·cases h1
     ·exact twoV_err h1
end M
theorem ecatch_idle(a:Addr)(w:World):CallsD Tryz.prog 87 #[.pointer (some a)] .returning w fun e u' w'=>e= .returned (.tuple #[])/\u'= .returning/\w'=w:=by
 refine callsD_of_wpS Tryz.func87 rfl fun c₀ cs hu=> ?_;apply wpS_seq;apply wpS_region;simp[wpOpsS,go_sem,recoverD,hu,Tryz.ntmps87,Exit.thenS];refine wpS_of_wp ?_;refine frame_is (t':=#[.pointer (some a),.nilIface,undef,undef,.nilIface,undef,undef,undef,undef,undef,undef,undef,undef,undef,undef,undef]) (by kernel_rfl) ?_;go_wp2;cases c₀;simp_all [bodyPostS,results,Tryz.results87]
theorem errno_is(k:Int)(W:World):(Instr.typeAssert (.iface 30 (.int .i64 k)) 20 30 true).run Tryz.prog W= .ok (.tuple #[.int .i64 k,.bool true]) W:=by kernel_rfl
theorem ecatch_errno(a:Nat)(k:Int)(x:Value)(w:World)(ha:Blk w a 30 #[x]):
 CallsD Tryz.prog 87 #[.pointer (some ⟨a,0,none⟩)] (.panicking [{v:= .iface 30 (.int .i64 k),recovered:=false}]) w fun e u' w'=>
  e= .returned (.tuple #[])/\u'= .panicking [{v:= .iface 30 (.int .i64 k),recovered:=true}]/\Turns (fun q=>q=a) w w'/\Blk w' a 30 #[.int .i64 k]:=by
 refine callsD_of_wpS Tryz.func87 rfl fun c₀ cs hu=> ?_;have HA:=q_ ha;clear ha;apply wpS_seq;apply wpS_region;simp[wpOpsS,go_sem,recoverD,hu,Tryz.ntmps87,Exit.thenS];refine wpS_of_wp ?_;refine frame_is (t':=#[.pointer (some ⟨a,0,none⟩),.iface 30 (.int .i64 k),undef,undef,.iface 30 (.int .i64 k),undef,undef,undef,undef,undef,undef,undef,undef,undef,undef,undef]) (by kernel_rfl) ?_;have hta:=errno_is k;have za:=HA.o.cell;have fa:=HA.o.frozen;have T5:=q_ (show Turns (fun q=>q=a) w (w.setCell ⟨a,0,none⟩ (.int .i64 k)) from(Turns.refl _ w).grown (fun _=>rfl) (grown_set w a 0 _));have A5:=q_ (HA.o.one_set (.int .i64 k));clear hu;go_wp2_with fail;simp[bodyPostS,results,Tryz.results87];exact⟨T5.o,A5.o⟩
end
end Go.Proofs.YtnocnbklhikmnaaGreatDoor
