/- Part 8 of the proof. -/
import Derived.Test.YtnocnbklhikmnaaGreatDoorW7
import Derived.Laws.Append
import Derived.Room.Entries
set_option linter.unusedVariables false
set_option maxRecDepth 1000000
set_option maxHeartbeats 16000000
namespace Go.Proofs.YtnocnbklhikmnaaGreatDoor.Rk
open Go
theorem foldl_set(off:Nat):∀(l:List Value) (k:Nat) (arr:Array Value),off+k+l.length<=arr.size->
 ((l.zipIdx k).foldl (fun cs (x:Value×Nat)=>cs.setIfInBounds (off+x.2) x.1) arr).size=arr.size/\∀i,((l.zipIdx k).foldl (fun cs (x:Value×Nat)=>cs.setIfInBounds (off+x.2) x.1) arr)[i]? =if off+k<=i/\i<off+k+l.length then l[i-(off+k)]?else arr[i]?
 |[],k,arr,h=>by
  simp only[List.zipIdx_nil,List.foldl_nil];exact⟨trivial,fun i=>by rw[if_neg (by simp only[List.length_nil];omega)]⟩
 |v::l,k,arr,h=>by
  simp only[List.length_cons] at h;obtain⟨h1,h2⟩:=foldl_set off l (k+1) (arr.setIfInBounds (off+k) v) (by simp;omega);simp only[List.zipIdx_cons,List.foldl_cons];refine⟨by rw[h1];simp,fun i=> ?_⟩;rw[h2];by_cases hi:off+(k+1)<=i/\i<off+(k+1)+l.length
  ·rw[if_pos hi,if_pos (by simp only[List.length_cons];omega),show i-(off+k)=(i-(off+(k+1)))+1 by omega,List.getElem?_cons_succ]
  ·rw[if_neg hi]
   by_cases hik:i=off+k
   ·subst hik
    rw[if_pos (by simp only[List.length_cons];omega),Nat.sub_self,List.getElem?_cons_zero,Array.getElem?_setIfInBounds,if_pos rfl,if_pos (by omega)]
   ·rw[if_neg (by simp only[List.length_cons];omega),Array.getElem?_setIfInBounds,if_neg (Ne.symm hik)]
theorem VRL.size{ρ:Env}{l:List AV}{a:Array Value}(h:VRL ρ l a.toList):a.size=l.length:=by
 have:=h.length
 rwa [Array.length_toList] at this
inductive PR(ρ:Env):List (Nat×AV)->List (Nat×Value)->Prop
 |nil:PR ρ [] []
 |cons (i:Nat) (x:AV) (v:Value) (l:List (Nat×AV)) (k:List (Nat×Value)) (h:VR ρ x v) (t:PR ρ l k):PR ρ ((i,x)::l) ((i,v)::k)
theorem fill_ok{ρ:Env}{place:Nat->Option (Nat×Nat)}:∀{ps:List (Nat×AV)} {ps':List (Nat×Value)} {cells r:List AV} {cells':Array Value},fillA place cells ps=some r->PR ρ ps ps'->VRL ρ cells cells'.toList->
 ∃r',Instr.fill place cells' ps'=some r'/\VRL ρ r r'.toList
 |[],_,cells,r,cells',h,.nil,hc=>by simp[fillA] at h;subst h;exact⟨cells',rfl,hc⟩
 |(i,x)::l,_,cells,r,cells',h,.cons _ _ v _ k hv ht,hc=>by
  unfold fillA at h;split at h
  ·rename_i off size hpl
   split at h
   ·rename_i c hcx
    split at h
    ·rename_i hlen
     split at h
     ·rename_i c2 hset
      obtain⟨s1,s2,s3⟩:=setL_ok hset;have hvc:=cells_ok hv hcx;have hsz:=hvc.size;have hcs:=hc.size;have s3:=s3.resolve_left (fun e=>by subst e;simp at hlen;omega);have hb:off+v.cells.size<=cells'.size:=by omega
      have hf:=foldl_set off v.cells.toList 0 cells' (by simpa using hb)
      have hz:v.cells.zipIdx.foldl (fun cs (x:Value×Nat)=>cs.setIfInBounds (off+x.2) x.1) cells'=(v.cells.toList.zipIdx 0).foldl (fun cs (x:Value×Nat)=>cs.setIfInBounds (off+x.2) x.1) cells':=by
       rw[<-Array.foldl_toList,Array.toList_zipIdx]
      have hvr:VRL ρ c2 (v.cells.zipIdx.foldl (fun cs (x:Value×Nat)=>cs.setIfInBounds (off+x.2) x.1) cells').toList:=by
       rw[hz];refine VRL.of_get (by rw[Array.length_toList,hf.1,s1,hcs]) (fun j a u ha hu=> ?_);rw[Array.getElem?_toList,hf.2] at hu;rw[s2] at ha;by_cases hj:off<=j/\j<off+c.length
       ·rw[if_pos hj] at ha
        rw[if_pos (by rw[Array.length_toList];omega)] at hu;obtain⟨u',hu',hR⟩:=hvc.get _ ha;rw[show j-(off+0)=j-off by omega,hu'] at hu;cases hu;exact hR
       ·rw[if_neg hj] at ha
        rw[if_neg (by rw[Array.length_toList];omega)] at hu;obtain⟨u',hu',hR⟩:=hc.aget ha;rw[hu'] at hu;cases hu;exact hR
      obtain⟨r',h1,h2⟩:=fill_ok h ht hvr;refine⟨r',?_,h2⟩;unfold Instr.fill;simp only[hpl];rw[if_neg (by simp only[Bool.or_eq_true,decide_eq_true_eq];omega)];exact h1
     ·cases h
    ·cases h
   ·cases h
  ·cases h
theorem repL_get(z:List AV):∀(n i:Nat),i<n*z.length->(repL z n)[i]? =z[i%z.length]?
 |0,i,h=>by simp at h
 |n+1,i,h=>by
  unfold repL;rw[Nat.add_mul] at h;by_cases hi:i<z.length
  ·rw[List.getElem?_append_left hi,Nat.mod_eq_of_lt hi]
  ·rw[List.getElem?_append_right (by omega),repL_get z n _ (by omega)]
   congr 1;exact(Nat.mod_eq_sub_mod (by omega)).symm
theorem repL_len(z:List AV):∀n:Nat,(repL z n).length=n*z.length
 |0=>by simp[repL]
 |n+1=>by unfold repL;rw[List.length_append,repL_len z n,Nat.add_mul];omega
theorem repL_ok{ρ:Env}{z:List AV}{zero:Array Value}(h:VRL ρ z zero.toList)(hz:0<z.length)(n m:Nat)(hm:n<=m)(hs:zero.size=z.length):
 ∀(i:Nat) (a:AV),(repL z n)[i]? =some a->∃v,((Array.range (m*z.length)).map (fun i=>zero[i%zero.size]!))[i]? =some v/\VR ρ a v:=by
 intro i a ha
 have hi:i<n*z.length:=by
  have:=(List.getElem?_eq_some_iff.1 ha).1
  rwa [repL_len] at this
 rw[repL_get z n i hi] at ha;obtain⟨v,hv,hR⟩:=h.aget ha;have hle:n*z.length<=m*z.length:=Nat.mul_le_mul_right _ hm;refine⟨v,?_,hR⟩;have hmod:i%zero.size<zero.size:=Nat.mod_lt _ (by omega);rw[Array.getElem?_map,Array.getElem?_eq_getElem (by simp;omega)];simp only[Array.getElem_range,Option.map_some,Option.some.injEq];rw[hs] at hmod⊢;rw[getElem!_pos zero (i%z.length) (by omega)];rw[Array.getElem?_eq_getElem (by omega)] at hv;exact Option.some.inj hv
section
variable {P:Program} {ρ:Env} {T:Nat->Nat->Prop} {s s':St} {w w':World}
theorem run_row(e:TypeId)(c:Array Value)(w:World):(newRow e c).run P w= .ok ⟨w.heap.size,0,none⟩ {w with heap:=w.heap.push (.cells c e)}:=rfl
theorem made_ok{e:TypeId}{cs:List AV}{c:Array Value}{fr:Nat×Nat}(hp:Pre ρ T s (s.new (.cells (2*e) cs)) w)(hw:Add w w' (.cells c e fr))(hfr:∀o,o<c.size->(decide (fr.1<=o)&&decide (o<fr.2))=false)(hl:cs.length<=c.size)(hv:∀(i:Nat) (a:AV),cs[i]? =some a->∃v,c[i]? =some v/\VR ρ a v):Post ρ T s w (ρ.add s.n ⟨w.heap.size,0,c.size⟩) (s.new (.cells (2*e) cs)) w':=by
 have hf:ρ s.n=none:=hp.fresh s.n (n_) (Nat.lt_succ_self _);refine Post.made hp.good hp.wf hf hp.tn hw rfl ⟨⟨w.heap.size,0,c.size⟩,c,fr,Env.add_self _ _,(by rw[two_half];exact hw.here),by simp,Fits.even e hl,fun o _ h=>hfr o h,fun i a ha _=> ?_⟩;obtain⟨v,h1,h2⟩:=hv i a ha;exact⟨v,by simpa using h1,h2.mono (Env.add_le hf)⟩
theorem made_ptr1{e:TypeId}{cs:List AV}{c:Array Value}{m:Sem Value}(hp:Pre ρ T s (s.new (.cells (2*e+1) cs)) w)(hm:m.run P w= .ok (.pointer (some ⟨w.heap.size,0,none⟩)) {w with heap:=w.heap.push (.cells c e)})(hv:VRL ρ cs c.toList):OK1 P m ρ T s w (.ptr s.n 0) (s.new (.cells (2*e+1) cs)):=
 have hf:ρ s.n=none:=hp.fresh s.n (n_) (Nat.lt_succ_self _)
 ⟨_,_,_,hm,Post.made hp.good hp.wf hf hp.tn (Add.push w _) rfl ⟨⟨w.heap.size,0,c.size⟩,c,(0,0),Env.add_self _ _,(by rw[two_half1];exact(Add.push w (.cells c e)).here),by simp,⟨by rw[hv.size];exact n_,fun _=>⟨rfl,hv.size⟩⟩,fun o _ h=>by simp,fun i a ha _=>by
  obtain⟨v,h1,h2⟩:=hv.aget ha;exact⟨v,by simpa using h1,h2.mono (Env.add_le hf)⟩⟩,.ptr s.n 0 _ (Env.add_self _ _)⟩
theorem made_slice{e:TypeId}{cs:List AV}{c:Array Value}{m:Sem Value}{len cap mc es:Nat}(hp:Pre ρ T s (s.new (.cells (2*e) cs)) w)(hm:m.run P w= .ok (.slice (some ⟨w.heap.size,0,none⟩) len cap) {w with heap:=w.heap.push (.cells c e)})(hl:cs.length<=c.size)(hv:∀(i:Nat) (a:AV),cs[i]? =some a->∃v,c[i]? =some v/\VR ρ a v)(h1:len<=mc)(h2:mc<=cap)(h3:cap*es<=c.size):OK1 P m ρ T s w (.slice s.n 0 len mc es) (s.new (.cells (2*e) cs)):=
 ⟨_,_,_,hm,made_ok hp (Add.push w _) (fun o _=>by simp) hl hv,.slice s.n 0 len mc es _ _ _ (Env.add_self _ _) h1 h2 (.inr ⟨rfl,by simpa using h3⟩)⟩
theorem zeroC_ok{t:TypeId}{z:List AV}(h:zeroC P t=some z)(w:World):∃v,(zeroValue t).run P w= .ok v w/\VRL ρ z v.cells.toList:=by
 unfold zeroC at h;cases hz:zeroA P t with
 |none=>rw[hz] at h;cases h
 |some a=>
  rw[hz] at h;obtain⟨v,h1,_,h3⟩:=run_zero (ρ:=ρ) hz w;exact⟨v,h1,cells_ok h3 h⟩
theorem opAlloc_ok{t:TypeId}{z:List AV}(h:zeroC P t=some z)(hp:Pre ρ T s (s.new (.cells (2*t+1) z)) w):OK1 P (Instr.alloc t true (.tuple #[])) ρ T s w (.ptr s.n 0) (s.new (.cells (2*t+1) z)):=by
 obtain⟨v,h1,h2⟩:=zeroC_ok (ρ:=ρ) h w;exact made_ptr1 hp (by simp[Instr.alloc,h1,newVar,run_row]) h2
theorem opBox_ok{t:TypeId}{x:AV}{x':Value}{c:List AV}(h:cellsA x=some c)(hp:Pre ρ T s (s.new (.cells (2*t+1) c)) w)(hx:VR ρ x x'):OK1 P (Instr.box t x') ρ T s w (.ptr s.n 0) (s.new (.cells (2*t+1) c)):=
 made_ptr1 hp (by simp[Instr.box,newVar,run_row]) (cells_ok hx h)
theorem opBuildSlice_mono{t:TypeId}{len:Nat}{ps:List (Nat×AV)}{v:AV}(h:opBuildSlice P t len ps s=some (v,s')):Mono s s':=by
 unfold opBuildSlice at h;split at h
 ·split at h
  ·split at h
   ·split at h
    ·cases h;exact Mono.new _ _
    ·cases h
   ·cases h
  ·cases h
 ·cases h
theorem opBuildSlice_ok{t:TypeId}{len:Nat}{ps:List (Nat×AV)}{ps':Array (Nat×Value)}{v:AV}(h:opBuildSlice P t len ps s=some (v,s'))(hp:Pre ρ T s s' w)(hx:PR ρ ps ps'.toList):OK1 P (Instr.buildSlice t len ps') ρ T s w v s':=by
 unfold opBuildSlice at h;split at h
 ·rename_i e hu
  split at h
  ·rename_i n z hs hz
   split at h
   ·rename_i hc
    obtain⟨hc1,hc2,hc3⟩:=hc;split at h
    ·rename_i cs hf
     cases h;obtain⟨zv,hz1,hz2⟩:=zeroC_ok (ρ:=ρ) hz w;have hzs:=hz2.size;have hrep:=repL_ok hz2 (by omega) len len (n_) hzs;rw[hc3] at hrep hzs
     have hbase:VRL ρ (repL z len) ((Array.range (len*n)).map (fun i=>zv.cells[i%zv.cells.size]!)).toList:=by
      refine VRL.of_get (by rw[Array.length_toList,repL_len,hc3];simp) (fun i a v ha hv=> ?_);obtain⟨u,hu1,hR⟩:=hrep i a ha;rw[Array.getElem?_toList,hu1] at hv;cases hv;exact hR
     obtain⟨r',hr1,hr2⟩:=fill_ok hf hx hbase
     have hln:cs.length=len*n:=by
      have h0:∀{ps:List (Nat×AV)} {cells r:List AV} {place:Nat->Option (Nat×Nat)},fillA place cells ps=some r->r.length=cells.length:=by
       intro ps
       induction ps with
       |nil=>intro cells r place h;simp[fillA] at h;subst h;rfl
       |cons p l ih=>
        intro cells r place h;obtain⟨i,x⟩:=p;unfold fillA at h;split at h
        ·split at h
         ·split at h
          ·split at h
           ·rename_i hset
            rw[ih h,(setL_ok hset).1]
           ·cases h
          ·cases h
         ·cases h
        ·cases h
      rw[h0 hf,repL_len,hc3]
     have hrs:=hr2.size;refine made_slice hp (c:=r') ?_ (by omega) (fun i a ha=>hr2.aget ha) (n_) (n_) (by omega);have hmod:(fun x=>zv.cells[x%n]!)=fun i=>zv.cells[i%zv.cells.size]! :=by rw[hzs]
     have hnot:¬len*n>2^24:=by omega
     unfold Instr.buildSlice;simp only[Sem.run_bind,run_underlying hu,Result.andThen_ok,run_szOf hs,Sem.run_ite,if_neg hnot,Sem.run_pure];by_cases h0:len*n=0
     ·have hl0:len=0:=by
       rcases Nat.mul_eq_zero.1 h0 with h|h<;>omega
      subst hl0;simp only[Nat.zero_mul,if_true];have:((Array.range 0).map (fun x=>(#[]:Array Value)[x%(#[]:Array Value).size]!))=((Array.range (0*n)).map (fun i=>zv.cells[i%zv.cells.size]!)):=by simp
      rw[this,hr1];simp[run_row]
     ·simp only[if_neg h0,hz1,Result.andThen_ok]
      rw[hr1];simp[run_row]
    ·cases h
   ·cases h
  ·cases h
 ·cases h
end
section
variable {P:Program} {ρ:Env} {T:Nat->Nat->Prop} {s s':St} {w w':World}
theorem zeroC_info{t:TypeId}{z:List AV}{i:TypeInfo}(h:zeroC P t=some z)(hi:P.info? t=some i):∃v,i.zero=some v/\VRL ρ z v.cells.toList:=by
 unfold zeroC zeroA at h;rw[hi] at h;cases hz:i.zero with
 |none=>simp[hz] at h
 |some v=>
  simp[hz] at h;exact⟨v,rfl,cells_ok (ofV_ok 3 v) h⟩
theorem opMakeSlice_mono{t:TypeId}{l c v:AV}(h:opMakeSlice P t l c s=some (v,s')):Mono s s':=by
 unfold opMakeSlice at h;split at h
 ·split at h
  ·split at h
   ·cases h;exact Mono.new _ _
   ·cases h
  ·cases h
 ·cases h
theorem opMakeSlice_ok{t:TypeId}{l c v:AV}{l' c':Value}(h:opMakeSlice P t l c s=some (v,s'))(hp:Pre ρ T s s' w)(hl:VR ρ l l')(hc:VR ρ c c'):OK1 P (Instr.makeSlice t l' c') ρ T s w v s':=by
 unfold opMakeSlice at h;split at h
 ·rename_i e kl n kc m hu
  split at h
  ·rename_i i z hi hz
   split at h
   ·rename_i hc0
    obtain⟨h1,h2,h3,h4,h5⟩:=hc0;cases h;cases hl;cases hc;obtain⟨zv,hzi,hzv⟩:=zeroC_info (ρ:=ρ) hz hi;have hzs:=hzv.size
    have hb:(i.bytes:Int)*((m:Nat):Int)<=281474976710656:=by
     have h6:i.bytes*m<=100000*1000000:=Nat.mul_le_mul h3 (by omega);have:((i.bytes*m:Nat):Int)<=281474976710656:=by omega
     rwa [Int.natCast_mul] at this
    have hr:=run_make (P:=P) w t e i zv hu hi hzi kl kc n m (by omega) (by omega) hb (by omega);have hrep:=repL_ok hzv (by omega) n m h1 hzs;simp only[Int.toNat_natCast] at hr;refine made_slice hp (c:=madeCells zv.cells (m*i.size)) hr (by rw[size_madeCells,repL_len,h5];exact Nat.mul_le_mul_right _ h1) (fun j a ha=> ?_) h1 (n_) (by rw[size_madeCells];exact n_);rw[h5] at hrep;exact hrep j a ha
   ·cases h
  ·cases h
 ·cases h
theorem byteAt_ok:∀{cs:List AV} {l:List Nat} {vs:List Value},byteAt cs=some l->VRL ρ cs vs->∃xs:List Int,xs.length=cs.length/\vs=xs.map (Value.int .u8)/\(∀x∈l,x<256)/\xs.map (fun n=>UInt8.ofNat n.toNat)=l.map UInt8.ofNat
 |[],l,_,h,.nil=>by simp[byteAt] at h;subst h;exact⟨[],rfl,rfl,by simp,rfl⟩
 |a::cs,l,_,h,.cons _ v _ vs hv ht=>by
  unfold byteAt at h;split at h
  ·rename_i he;cases he
  ·rename_i n l' he
   cases he;split at h
   ·rename_i r hr
    cases h;cases hv;obtain⟨xs,h1,h2,h3,h4⟩:=byteAt_ok hr ht;refine⟨(n:Int)::xs,by simp[h1],by simp[h2],fun x hx=> ?_,?_⟩
    ·rcases List.mem_cons.1 hx with rfl|hx
     ·omega
     ·exact h3 x hx
    ·simp only[List.map_cons,h4]
     congr 1;apply UInt8.toNat_inj.1;simp
   ·cases h
  ·cases h
theorem conv_mono{src dst:TypeId}{x v:AV}(h:conv P src dst x s=some (v,s')):Mono s s':=by
 unfold conv at h;split at h
 ·cases h;exact Mono.refl _
 ·cases h;exact Mono.refl _
 ·split at h
  ·split at h
   ·cases h;exact Mono.refl _
   ·cases h
  ·cases h
 ·split at h
  ·split at h
   ·split at h
    ·rename_i hr
     split at h
     ·cases h;exact(rd_mono hr).2
     ·cases h
    ·cases h
   ·cases h
  ·cases h
 ·split at h
  ·split at h
   ·cases h;exact Mono.new _ _
   ·cases h
  ·cases h
 ·cases h
theorem bytes_get(l:List Nat)(hl:∀x∈l,x<256):VRL ρ (bytesA l) ((⟨(l.map UInt8.ofNat).toArray⟩:ByteArray).data.map fun b=>Value.int .u8 b.toNat).toList:=by
 simp only[Array.toList_map,List.map_map];refine VRL.map _ _ _ (fun x hx=> ?_);have:=hl x hx;have e:(UInt8.ofNat x).toNat=x:=by simp;omega
 show VR ρ (.int .u8 (Int.ofNat x)) (.int .u8 ((UInt8.ofNat x).toNat:Int));rw[e];exact .int _ _
theorem conv_ok{src dst:TypeId}{x v:AV}{x':Value}(h:conv P src dst x s=some (v,s'))(hsrc:∃d,P.underlying src=some d)(hp:Pre ρ T s s' w)(hx:VR ρ x x'):OK1 P (convert src dst x') ρ T s w v s':=by
 obtain⟨d0,hd0⟩:=hsrc;unfold conv at h;split at h
 ·rename_i k k' n hu
  cases h;cases hx;exact OK1.pure hp (by simp[convert,run_underlying hd0,run_underlying hu,Conv.intToInt]) (.int _ _)
 ·rename_i l hu
  cases h;cases hx with
  |str _ hl=>exact OK1.pure hp (by simp[convert,run_underlying hd0,run_underlying hu]) (.str l hl)
 ·rename_i hu
  split at h
  ·rename_i e hs
   split at h
   ·rename_i he
    cases h;cases hx;exact OK1.pure hp (run_convert_bytes_nil (P:=P) w src e hs he 0 0 dst hu) (VR.string ByteArray.empty)
   ·cases h
  ·cases h
 ·rename_i b off len mc es hu
  split at h
  ·rename_i e hs
   split at h
   ·rename_i he
    split at h
    ·rename_i cs s1 hr
     split at h
     ·rename_i l hl
      cases h;cases hx with
      |slice _ _ _ _ _ r ad cap hb h1 h2 h3=>
       obtain⟨vs,g1,g2,g3⟩:=rd_ok hr hp hb;obtain⟨e1,_⟩:=rd_mono hr;obtain⟨xs,k1,k2,k3,k4⟩:=byteAt_ok hl g2;have hlen:=g2.length;rcases ad with⟨B,o,sp⟩
       have hx:xs.length=len:=by omega
       have hcell:∀i,i<len->(loadCells ⟨B,o,sp⟩ len).run P w=(loadCells ⟨B,o,sp⟩ len).run P w:=fun _ _=>rfl;by_cases h0:len=0
       ·subst h0
        have:l=[]:=by
         have h5:=congrArg List.length k4;simp at h5;exact List.length_eq_zero_iff.1 (by omega)
        subst this;refine⟨ρ,w,.string ByteArray.empty,?_,Post.same hp.good (by rw[e1];rfl) (by rw[e1];rfl) (Still.refl w),VR.string ByteArray.empty⟩;simp[convert,run_underlying hs,run_underlying hu,run_underlying he,Conv.bytesToString,loadCells,loadCellsFrom]
       ·have had:=(h3.resolve_left (by omega)).1
        have hro:=run_convert_bytes_arg (P:=P) w src e hs he r.blk (r.base+off) len cap xs hx (fun i hi=>by
         have:=g3 i (.int .u8 (xs.getD i 0)) (by rw[k2,List.getElem?_map,List.getElem?_eq_getElem (by omega),List.getD_eq_getElem?_getD,List.getElem?_eq_getElem (by omega)];rfl);rw[RB.at_add] at this;rw[<-this];unfold RB.at
         rw[Nat.add_assoc]) dst hu
        refine⟨ρ,w,.string (strOfNums xs),?_,Post.same hp.good (by rw[e1];rfl) (by rw[e1];rfl) (Still.refl w),?_⟩
        ·rw[had];exact hro
        ·unfold strOfNums
         rw[k4];exact .str l k3
     ·cases h
    ·cases h
   ·cases h
  ·cases h
 ·rename_i e l hu
  split at h
  ·rename_i he hsz
   split at h
   ·rename_i hlen
    cases h;cases hx with
    |str _ hl=>
     have hbl:=bytes_get (ρ:=ρ) l hl;have hbs:=hbl.size;have hsize:(⟨(l.map UInt8.ofNat).toArray⟩:ByteArray).size=l.length:=by simp[ByteArray.size]
     generalize hba:(⟨(l.map UInt8.ofNat).toArray⟩:ByteArray)=ba at*;simp only[bytesA,List.length_map] at hbs
     let cap:=(Question.appendCap ba.size 0 e).cut (w.tape w.drawn (.appendCap ba.size 0 e))
     have hcap:cap=ba.size+(w.tape w.drawn (.appendCap ba.size 0 e))%(2^63-ba.size):=rfl;have hbsz:(ba.data.map fun(b:UInt8)=>Value.int .u8 b.toNat).size=ba.size:=by rw[Array.size_map];rfl
     let c:Array Value:=(ba.data.map fun b=>Value.int .u8 b.toNat)++Array.replicate (cap-ba.size) (.int .u8 0)
     have hcs:c.size=cap:=by
      show((ba.data.map fun(b:UInt8)=>Value.int .u8 b.toNat)++Array.replicate (cap-ba.size) (Value.int .u8 0)).size=cap
      rw[Array.size_append,hbsz,Array.size_replicate];omega
     have hrun:(convert src dst (.string ba)).run P w= .ok (.slice (some ⟨w.heap.size,0,none⟩) ba.size cap) {w with drawn:=w.drawn+1,heap:=w.heap.push (.cells c e (cap,cap+1))}:=by
      have hconv:(convert src dst (.string ba)).run P w=(Conv.stringToBytes e ba).run P w:=by
       unfold convert;simp only[Sem.run_bind,run_underlying hd0,run_underlying hu,run_underlying he,Result.andThen_ok]
      have hforced:(Question.appendCap ba.size 0 e).forced=false:=rfl;rw[hconv];unfold Conv.stringToBytes markStringish;simp only[Sem.run_bind,run_choose,hforced,Bool.false_eq_true,if_false,Result.andThen_ok,run_row,run_shape]
      show(Result.andThen ((match World.shape? {w with drawn:=w.drawn+1,heap:=w.heap.push (.cells c e)} w.heap.size with
       |some (_,n)=>freeze {block:=w.heap.size,off:=n} 1
       |_=>pure ():Sem Unit).run P {w with drawn:=w.drawn+1,heap:=w.heap.push (.cells c e)}) fun a w'=>(Pure.pure (Value.slice (some ⟨w.heap.size,0,none⟩) ba.size cap):Sem Value).run P w')=_
      have hsh:World.shape? {w with drawn:=w.drawn+1,heap:=w.heap.push (.cells c e)} w.heap.size=some (e,c.size):=by simp[World.shape?]
      rw[hsh];simp only[run_freeze,Result.andThen_ok,Sem.run_pure,World.freeze,Nat.one_ne_zero,if_false];congr 1;congr 1;apply Array.ext_getElem?;intro i;rw[Array.getElem?_modify];by_cases hi:w.heap.size=i
      ·subst hi;simp[hcs]
      ·rw[if_neg hi];simp[Array.getElem?_push,Ne.symm hi]
     have hadd:Add w {w with drawn:=w.drawn+1,heap:=w.heap.push (.cells c e (cap,cap+1))} (.cells c e (cap,cap+1)):=(Add.push w _).drew _
     refine⟨_,_,_,hrun,made_ok hp hadd (fun o ho=>by
      rw[hcs] at ho;show(decide (cap<=o)&&decide (o<cap+1))=false
      rw[decide_eq_false (by omega)];rfl) (by rw[hcs,bytesA,List.length_map];omega) (fun i a ha=> ?_),?_⟩
     ·obtain⟨v,hv,hR⟩:=hbl.aget ha
      refine⟨v,?_,hR⟩;show((ba.data.map fun(b:UInt8)=>Value.int .u8 b.toNat)++Array.replicate (cap-ba.size) (Value.int .u8 0))[i]? =some v
      rw[Array.getElem?_append_left (Array.getElem?_eq_some_iff.1 hv).1];exact hv
     ·rw[hsize]
      exact .slice s.n 0 l.length l.length 1 _ _ _ (Env.add_self _ _) (n_) (by omega) (.inr ⟨rfl,by show 0+cap*1<=c.size;omega⟩)
   ·cases h
  ·cases h
 ·cases h
end
section
variable {P:Program} {ρ:Env} {T:Nat->Nat->Prop} {s s':St} {w w':World}
theorem newA_mono{e:TypeId}{sz n:Nat}{y:AV}{cs:List AV}{s1:St}(h:newA e sz y s=some (n,cs,s1)):Mono s s1/\s1.heap=s.heap/\s1.n=s.n:=by
 unfold newA at h;split at h
 ·cases h;exact⟨Mono.refl _,rfl,rfl⟩
 ·split at h
  ·cases h;exact⟨Mono.refl _,rfl,rfl⟩
  ·cases h
 ·split at h
  ·split at h
   ·rename_i hr
    obtain⟨h1,h2⟩:=rd_mono hr;cases h;exact⟨h2,by rw[h1];rfl,by rw[h1];rfl⟩
   ·cases h
  ·cases h
 ·cases h
theorem cell_heap{w w1:World}(h:w1.heap=w.heap)(a:Addr):w1.cell? a=w.cell? a:=by unfold World.cell?;rw[h]
theorem extract_all(ba:ByteArray):ba.extract 0 ba.size=ba:=by
 apply ByteArray.ext;rw[ByteArray.data_extract];show ba.data.extract 0 ba.data.size=ba.data;simp
theorem newA_ok{e:TypeId}{sz n:Nat}{y:AV}{y':Value}{cs:List AV}{s1:St}(h:newA e sz y s=some (n,cs,s1))(hp:Pre ρ T s s1 w)(hy:VR ρ y y'):
 ∃vs:List Value,VRL ρ cs vs/\vs.length=n*sz/\(∀w1,(Builtin.lenOf y').run P w1= .ok n w1)/\∀w1:World,w1.heap=w.heap->(Builtin.firstCells sz n y').run P w1= .ok vs.toArray w1:=by
 unfold newA at h;split at h
 ·cases h
  cases hy;exact⟨[],.nil,by simp,fun _=>rfl,fun _ _=>rfl⟩
 ·rename_i l
  split at h
  ·rename_i hsz
   cases h;cases hy with
   |str _ hl=>
    have hb:=bytes_get (ρ:=ρ) l hl;have hsize:(⟨(l.map UInt8.ofNat).toArray⟩:ByteArray).size=l.length:=by simp[ByteArray.size]
    refine⟨_,hb,?_,fun w1=> ?_,fun w1 _=> ?_⟩
    ·rw[hsz,Nat.mul_one,hb.length,bytesA,List.length_map]
    ·simp[Builtin.lenOf,hsize]
    ·show(Pure.pure (((⟨(l.map UInt8.ofNat).toArray⟩:ByteArray).extract 0 l.length).data.map fun(b:UInt8)=>Value.int .u8 b.toNat):Sem (Array Value)).run P w1=_
     rw[<-hsize,extract_all,Sem.run_pure,Array.toArray_toList]
  ·cases h
 ·rename_i b off len mc es
  split at h
  ·rename_i hes
   split at h
   ·rename_i cs1 s2 hr
    cases h;cases hy with
    |slice _ _ _ _ _ r ad cap hb h1 h2 h3=>
     obtain⟨vs,g1,g2,g3⟩:=rd_ok hr hp hb;refine⟨vs,g2,g1,fun w1=>rfl,fun w1 hw=> ?_⟩;unfold Builtin.firstCells;rw[<-g1];refine run_cells (fun j v hv=> ?_);rw[cell_heap hw];by_cases h0:cap=0
     ·have:n=0:=by omega
      subst this;simp at g1;subst g1;simp at hv
     ·rw[(h3.resolve_left h0).1]
      exact g3 j v hv
   ·cases h
  ·cases h
 ·cases h
theorem run_append_room_{t u ty e:TypeId}{i:TypeInfo}(hu:P.underlying t=some (.slice e))(hi:P.info? e=some i)(hun:(∃e',P.underlying u=some (.slice e'))\/P.underlying u=some .string){base:Option Addr}{sLen sCap n:Nat}{y':Value}{news:List Value}(hl:∀w1,(Builtin.lenOf y').run P w1= .ok n w1)(hf:∀w1:World,w1.heap=w.heap->(Builtin.firstCells i.size n y').run P w1= .ok news.toArray w1)(hr:sLen+n<=sCap):
 (Builtin.append_ #[t,u] ty #[.slice base sLen sCap,y']).run P w=match base with
   |some a=>(match(storeCells (a.add (sLen*i.size)) news).run P w with
    | .ok _ w'=> .ok (.slice base (sLen+n) sCap) w'
    | .halt h w'=> .halt h w')
   |none=> .ok (.slice base (sLen+n) sCap) w:=by
 have hsz:(sizeOf e).run P w= .ok i.size w:=run_szOf (by simp[szOf,hi]) w;rcases hun with⟨e',hd⟩|hd
 all_goals
  unfold Builtin.append_;simp only[List.getElem?_toArray,List.getElem?_cons_zero,List.getElem?_cons_succ,Sem.run_bind,Sem.run_pure,run_underlying hu,run_underlying hd,Result.andThen_ok,hsz,Bool.false_eq_true,if_false,hl,Sem.run_ite,if_pos hr,Bool.not_false,if_true,hf w rfl];cases base with
  |none=>simp
  |some a=>
   simp only[Sem.run_bind];cases(storeCells (a.add (sLen*i.size)) news).run P w<;>simp
theorem run_append_more{t u ty e:TypeId}{i:TypeInfo}{z:Value}(hu:P.underlying t=some (.slice e))(hi:P.info? e=some i)(hzi:i.zero=some z)(hun:(∃e',P.underlying u=some (.slice e'))\/P.underlying u=some .string){base:Option Addr}{sLen sCap n:Nat}{y':Value}{news olds:List Value}(hl:∀w1,(Builtin.lenOf y').run P w1= .ok n w1)(hf:∀w1:World,w1.heap=w.heap->(Builtin.firstCells i.size n y').run P w1= .ok news.toArray w1)(ho:∀w1:World,w1.heap=w.heap->(Builtin.firstCells i.size sLen (.slice base sLen sCap)).run P w1= .ok olds.toArray w1)(hr:sCap<sLen+n)(hn:sLen+n<2000000)(hb:i.bytes<=100000):
 ∃cap,sLen+n<=cap/\(Builtin.append_ #[t,u] ty #[.slice base sLen sCap,y']).run P w= .ok (.slice (some ⟨w.heap.size,0,none⟩) (sLen+n) cap) {w with drawn:=w.drawn+1,heap:=w.heap.push (.cells (olds.toArray++news.toArray++Builtin.zeroCells z.cells (cap-(sLen+n))) e)}:=by
 have hsz:(sizeOf e).run P w= .ok i.size w:=run_szOf (by simp[szOf,hi]) w
 have h63:¬(((sLen+n:Nat):Int)>IntKind.i64.max/\(False\/i.bytes=0)):=by
  have:IntKind.i64.max=9223372036854775807:=by decide
  rw[this];omega
 have h63':¬(((sLen+n:Nat):Int)>IntKind.i64.max):=by
  have:IntKind.i64.max=9223372036854775807:=by decide
  rw[this];omega
 have hns:Builtin.nextslicecap (sLen+n) sCap*i.bytes<=400000000000:=by
  have h1:=Go.Room.nextslicecap_le' hr;have h2:Builtin.nextslicecap (sLen+n) sCap*i.bytes<=4000000*100000:=Nat.mul_le_mul (by omega) hb;omega
 have h48:¬(Builtin.nextslicecap (sLen+n) sCap*i.bytes>2^48):=by omega
 have hforced:(Question.appendCap (sLen+n) sCap e).forced=false:=rfl;have hzv:∀w1,(zeroValue e).run P w1= .ok z w1:=fun w1=>by simp[zeroValue,run_info hi,hzi]
 refine⟨(Question.appendCap (sLen+n) sCap e).cut (w.tape w.drawn (.appendCap (sLen+n) sCap e)),Nat.le_add_right _ _,?_⟩;rcases hun with⟨e',hd⟩|hd
 all_goals
  unfold Builtin.append_;simp only[List.getElem?_toArray,List.getElem?_cons_zero,List.getElem?_cons_succ,Sem.run_bind,run_underlying hu,run_underlying hd,Result.andThen_ok,hsz,Bool.false_eq_true,if_false,hl,Sem.run_ite,if_neg (Nat.not_le.2 hr),Bool.not_false,if_true,run_info hi,h63',false_and,if_neg h48,run_choose,hforced,run_askRoom,ho {w with drawn:=w.drawn+1} rfl,hf {w with drawn:=w.drawn+1} rfl,hzv,run_row,Sem.run_pure]
theorem bAppend_mono{t:TypeId}{x y v:AV}(hwf:WfS s)(h:bAppend P t x y s=some (v,s')):Mono s s':=by
 unfold bAppend at h;split at h
 ·split at h
  ·split at h
   ·cases h
   ·rename_i n cs s1 hn
    obtain⟨m1,m2,m3⟩:=newA_mono hn;split at h
    ·split at h
     ·split at h
      ·cases h;exact m1
      ·cases h;exact m1.trans (Mono.new _ _)
     ·split at h
      ·cases h;exact m1
      ·split at h
       ·rename_i hb
        split at h
        ·split at h
         ·split at h
          ·cases h
           exact m1.trans (Mono.put_note _ _ _ ⟨_,hb,trivial⟩)
          ·cases h
         ·split at h
          ·cases h
           exact(m1.trans (Mono.put_note _ _ .dead ⟨_,hb,trivial⟩)).trans (Mono.new _ _)
          ·cases h
        ·cases h
       ·cases h
     ·cases h
    ·cases h
  ·cases h
 ·cases h
theorem repL_top(n i:Nat)(a:AV)(h:(repL [.top] n)[i]? =some a):a= .top:=by
 have hi:i<n:=by
  have:=(List.getElem?_eq_some_iff.1 h).1;rw[repL_len] at this;simpa using this
 rw[repL_get [.top] n i (by simpa using hi)] at h;simp[Nat.mod_one] at h;exact h.symm
theorem repL_top_len(n:Nat):(repL [.top] n).length=n:=by rw[repL_len];simp
theorem OK1.after{m:Sem Value}{v:AV}{s1:St}(m1:Mono s s1)(m2:Mono s1 s')(h:Post ρ T s w ρ s1 w)(k:OK1 P m ρ (Tn T s.n s1.n) s1 w v s'):OK1 P m ρ T s w v s':=by
 obtain⟨ρ',w',v',h1,h2,h3⟩:=k;exact⟨ρ',w',v',h1,h.trans m1 m2 h2,h3⟩
section
variable {t u ty e:TypeId} {i:TypeInfo} {z:Value} {n:Nat} {cs:List AV} {vs:List Value} {y':Value}
 (hu:P.underlying t=some (.slice e)) (hi:P.info? e=some i) (hzi:i.zero=some z) (hzs:z.cells.size=i.size) (hun:(∃e',P.underlying u=some (.slice e'))\/P.underlying u=some .string)
 (g1:VRL ρ cs vs) (g2:vs.length=n*i.size) (g3:∀w1,(Builtin.lenOf y').run P w1= .ok n w1) (g4:∀w1:World,w1.heap=w.heap->(Builtin.firstCells i.size n y').run P w1= .ok vs.toArray w1)
 (c1:cs.all one=true) (c2:i.bytes<=100000) (c3:0<i.size) (c4:n<1000000) (h0:0<n)
include hu hi hzi hzs hun g1 g2 g3 g4 c1 c2 c3 c4 h0
theorem app_nil(hp:Pre ρ T s (s.new (.cells (2*e) cs)) w):OK1 P (Builtin.append_ #[t,u] ty #[.slice none 0 0,y']) ρ T s w (.slice s.n 0 n n i.size) (s.new (.cells (2*e) cs)):=by
 have _all:=(⟨hzi,hzs,c1,c2,c3,c4⟩:_/\_/\_/\_/\_/\_)
 obtain⟨cap,k1,k2⟩:=run_append_more (ty:=ty) (base:=none) (sLen:=0) (sCap:=0) (olds:=[]) hu hi hzi hun g3 g4 (fun _ _=>rfl) (by omega) (by omega) c2;have hsz:=g1.length;rw[Nat.zero_add] at k2 k1
 have hcz:((([]:List Value).toArray++vs.toArray)++Builtin.zeroCells z.cells (cap-n)).size=cap*i.size:=by
  have:(Builtin.zeroCells z.cells (cap-n)).size=(cap-n)*z.cells.size:=by simp[Builtin.zeroCells]
  rw[Array.size_append,Array.size_append,this,hzs];simp only[List.size_toArray,List.length_nil,Nat.zero_add,g2];rw[<-Nat.add_mul];congr 1;omega
 refine⟨_,_,_,k2,made_ok hp ((Add.push w _).drew _) (fun o _=>by simp) ?_ (fun j a ha=> ?_),?_⟩
 ·rw[hcz,<-hsz,g2]
  exact Nat.mul_le_mul_right _ k1
 ·obtain⟨u',hu',hR⟩:=g1.get j ha
  refine⟨u',?_,hR⟩;have hj:j<vs.length:=(List.getElem?_eq_some_iff.1 hu').1;rw[Array.getElem?_append_left (by simp;exact hj)];simpa using hu'
 ·refine .slice s.n 0 n n i.size _ _ _ (Env.add_self _ _) (n_) k1 (.inr ⟨rfl,?_⟩)
  show 0+cap*i.size<=((([]:List Value).toArray++vs.toArray)++Builtin.zeroCells z.cells (cap-n)).size;rw[hcz];omega
theorem app_in{b off len mc cap:Nat}{r:RB}{cs0 cs1:List AV}{t0:TypeId}(hbg:s.heap.get b=some (.cells t0 cs0))(hset:setL (cs0++repL [.top] (off+(len+n)*i.size-cs0.length)) (off+len*i.size) cs=some cs1)(hp:Pre ρ T s ((s.put b (.cells t0 cs1)).note (.all b)) w)(hb:ρ b=some r)(k1:len+n<=mc)(k2:mc<=cap)(hfit:off+cap*i.size<=r.n):
 OK1 P (Builtin.append_ #[t,u] ty #[.slice (some (r.at off)) len cap,y']) ρ T s w (.slice b off (len+n) mc i.size) ((s.put b (.cells t0 cs1)).note (.all b)):=by
 have _all:=(⟨hzi,hzs,c1,c2,c3,c4⟩:_/\_/\_/\_/\_/\_)
 have hT:∀i,T b i:=fun i=>hp.cov (.all b) (List.mem_cons_self ..) (lt_n hp.wf hbg) b i rfl;obtain⟨r0,c,fr,q1,q2,q3,q4,q5,q6⟩:=hp.good.sat b _ hbg ⟨0,hT 0⟩;have:r0=r:=Option.some.inj (q1.symm.trans hb);subst this;have qf:=q4;replace q4:=q4.1;obtain⟨z1,z2,z3⟩:=setL_ok hset;have hlen:=g1.length;have hle:(len+n)*i.size<=cap*i.size:=Nat.mul_le_mul_right _ (by omega);have hadd:(len+n)*i.size=len*i.size+n*i.size:=Nat.add_mul _ _ _;have hpos:0<n*i.size:=Nat.mul_pos h0 c3;have hcslen:cs.length=n*i.size:=by omega
 obtain⟨c',w2,f1,f2,f3,f4,f5,f6,f7,f8,f9⟩:=run_stores (P:=P) (o:=r0.base+off+len*i.size) vs 0 c w q2 (g1.ones c1) (by omega) (fun j h4 h5=>q5 j (by omega) h5);have hrun:=run_append_room_ (w:=w) (ty:=ty) (base:=some (r0.at off)) (sLen:=len) (sCap:=cap) hu hi hun g3 g4 (by omega);have hat:(r0.at off).add (len*i.size)=⟨r0.blk,r0.base+off+len*i.size,none⟩:=by rw[RB.at_add];unfold RB.at;rw[Nat.add_assoc]
 simp only[hat,f1] at hrun;refine⟨ρ,w2,_,hrun,Post.alt hp.good hbg trivial ⟨0,hT 0⟩ hb ⟨f7,f8,f9,f6,f2,f5⟩ ⟨r0,c',fr,hb,f2,by rw[f3];exact q3,?_,fun o h1 h2=>q5 o h1 (by rw[<-f3];exact h2),fun j a ha _=> ?_⟩,.slice b off (len+n) mc i.size r0 (r0.at off) cap hb k1 k2 (.inr ⟨rfl,hfit⟩)⟩
 ·rw[z1,List.length_append,repL_top_len]
  refine⟨by omega,fun hx=> ?_⟩;obtain⟨y1,y2⟩:=qf.2 hx;exact⟨y1,by omega⟩
 ·rw[z2] at ha
  by_cases hj:off+len*i.size<=j/\j<off+len*i.size+cs.length
  ·rw[if_pos hj] at ha
   rw[f4,if_pos (by omega),show r0.base+j-(r0.base+off+len*i.size+0)=j-(off+len*i.size) by omega];exact g1.get _ ha
  ·rw[if_neg hj] at ha
   rw[f4,if_neg (by omega)];by_cases hj0:j<cs0.length
   ·rw[List.getElem?_append_left hj0] at ha
    exact q6 j a ha (hT j)
   ·rw[List.getElem?_append_right (by omega)] at ha
    have htop:=repL_top _ _ a ha;have hjl:=(List.getElem?_eq_some_iff.1 ha).1;rw[repL_top_len] at hjl;subst htop;exact⟨_,Array.getElem?_eq_getElem (by omega),.top _⟩
theorem app_adopt{b off len cap:Nat}{r:RB}{cs0:List AV}(hbg:s.heap.get b=some (.cells (2*e) cs0))(htop:off+len*i.size=cs0.length)(hp:Pre ρ T s (((s.put b .dead).note (.all b)).new (.cells (2*e) (cs0.drop off++cs))) w)(hb:ρ b=some r)(hcap:len+n<=cap)(hfit:off+cap*i.size<=r.n):
 OK1 P (Builtin.append_ #[t,u] ty #[.slice (some (r.at off)) len cap,y']) ρ T s w (.slice s.n 0 (len+n) (len+n) i.size) (((s.put b .dead).note (.all b)).new (.cells (2*e) (cs0.drop off++cs))):=by
 have _all:=(⟨hzi,hzs,c1,c2,c3,c4⟩:_/\_/\_/\_/\_/\_)
 have hbn:=lt_n hp.wf hbg;have hT:∀i,T b i:=fun i=>hp.cov (.all b) (List.mem_cons_self ..) hbn b i rfl;obtain⟨r0,c,fr,q1,q2,q3,q4,q5,q6⟩:=hp.good.sat b _ hbg ⟨0,hT 0⟩;have:r0=r:=Option.some.inj (q1.symm.trans hb);subst this;have qf:=q4;replace q4:=q4.1;have hlen:=g1.length;have hadd:(len+n)*i.size=len*i.size+n*i.size:=Nat.add_mul _ _ _;have hpos:0<n*i.size:=Nat.mul_pos h0 c3;have hcslen:cs.length=n*i.size:=by omega
 have hfr:ρ s.n=none:=hp.fresh s.n (n_) (Nat.lt_succ_self _);have hle:(len+n)*i.size<=cap*i.size:=Nat.mul_le_mul_right _ hcap;obtain⟨c',w2,f1,f2,f3,f4,f5,f6,f7,f8,f9⟩:=run_stores (P:=P) (o:=r0.base+off+len*i.size) vs 0 c w q2 (g1.ones c1) (by omega) (fun j h4 h5=>q5 j (by omega) h5);have hrun:=run_append_room_ (w:=w) (ty:=ty) (base:=some (r0.at off)) (sLen:=len) (sCap:=cap) hu hi hun g3 g4 hcap;have hat:(r0.at off).add (len*i.size)=⟨r0.blk,r0.base+off+len*i.size,none⟩:=by rw[RB.at_add];unfold RB.at;rw[Nat.add_assoc]
 simp only[hat,f1] at hrun
 have hBR:BR (ρ.add s.n ⟨r0.blk,r0.base+off,r0.n-off⟩) (fun _=>True) s.n w2 (.cells (2*e) (cs0.drop off++cs)):=by
  refine⟨⟨r0.blk,r0.base+off,r0.n-off⟩,c',fr,Env.add_self _ _,f2,?_,?_,fun o h1 h2=> ?_,fun j a ha _=> ?_⟩
  ·show c'.size=r0.base+off+(r0.n-off)
   omega
  ·refine Fits.even e ?_
   show(cs0.drop off++cs).length<=r0.n-off
   rw[List.length_append,List.length_drop];omega
  ·have h3:r0.base+off<=o:=h1
   exact q5 o (by omega) (by rw[<-f3];exact h2)
  ·show∃v,c'[r0.base+off+j]? =some v/\VR (ρ.add s.n ⟨r0.blk,r0.base+off,r0.n-off⟩) a v
   by_cases hj:j<(cs0.drop off).length
   ·rw[List.getElem?_append_left hj,List.getElem?_drop] at ha
    rw[List.length_drop] at hj;rw[f4,if_neg (by omega),Nat.add_assoc];obtain⟨u',hu',hR⟩:=q6 (off+j) a ha (hT _);exact⟨u',hu',hR.mono (Env.add_le hfr)⟩
   ·rw[List.getElem?_append_right (by omega)] at ha
    rw[List.length_drop] at hj ha;have hjl:=(List.getElem?_eq_some_iff.1 ha).1;rw[f4,if_pos (by omega),show r0.base+off+j-(r0.base+off+len*i.size+0)=j-(cs0.length-off) by omega];obtain⟨u',hu',hR⟩:=g1.get _ ha;exact⟨u',hu',hR.mono (Env.add_le hfr)⟩
 refine⟨ρ.add s.n ⟨r0.blk,r0.base+off,r0.n-off⟩,w2,_,hrun,Post.adopt hp.good hp.wf hfr hbg trivial ⟨0,hT 0⟩ hb ⟨f7,f8,f9,f6,f2,f5⟩ rfl hbn hBR,.slice s.n 0 (len+n) (len+n) i.size ⟨r0.blk,r0.base+off,r0.n-off⟩ (r0.at off) cap (Env.add_self _ _) (n_) hcap (.inr ⟨rfl,?_⟩)⟩;show 0+cap*i.size<=r0.n-off;omega
theorem app_more{b off len cap:Nat}{r:RB}{ad:Addr}{cs0:List AV}(hbg:s.heap.get b=some (.cells (2*e) cs0))(htop:off+len*i.size=cs0.length)(hp:Pre ρ T s (((s.put b .dead).note (.all b)).new (.cells (2*e) (cs0.drop off++cs))) w)(hb:ρ b=some r)(hl:len<1000000)(hlc:len<=cap)(hcap:cap<len+n)(k3:cap=0\/ad=r.at off/\off+cap*i.size<=r.n):
 OK1 P (Builtin.append_ #[t,u] ty #[.slice (some ad) len cap,y']) ρ T s w (.slice s.n 0 (len+n) (len+n) i.size) (((s.put b .dead).note (.all b)).new (.cells (2*e) (cs0.drop off++cs))):=by
 have _all:=(⟨hzi,hzs,c1,c2,c3,c4⟩:_/\_/\_/\_/\_/\_)
 have hbn:=lt_n hp.wf hbg;have hT:∀i,T b i:=fun i=>hp.cov (.all b) (List.mem_cons_self ..) hbn b i rfl;obtain⟨r0,c,fr,q1,q2,q3,q4,q5,q6⟩:=hp.good.sat b _ hbg ⟨0,hT 0⟩;have:r0=r:=Option.some.inj (q1.symm.trans hb);subst this;have qf:=q4;replace q4:=q4.1;have hlen:=g1.length;have hadd:(len+n)*i.size=len*i.size+n*i.size:=Nat.add_mul _ _ _;have hmk:Mono s ((s.put b .dead).note (.all b)):=Mono.put_note _ _ _ ⟨_,hbg,trivial⟩;have hd:(cs0.drop off).length=len*i.size:=by rw[List.length_drop];omega
 have holds:∃os:List Value,os.length=len*i.size/\VRL ρ (cs0.drop off) os/\∀w1:World,w1.heap=w.heap->(Builtin.firstCells i.size len (.slice (some ad) len cap)).run P w1= .ok os.toArray w1:=by
  by_cases hl0:len=0
  ·subst hl0
   have:cs0.drop off=[]:=List.length_eq_zero_iff.1 (by omega);rw[this];refine⟨[],by simp,.nil,fun w1 _=> ?_⟩;simp[Builtin.firstCells,loadCells,loadCellsFrom]
  ·obtain⟨had,hfit⟩:=k3.resolve_left (by omega)
   have hl2:((c.toList.drop (r0.base+off)).take (len*i.size)).length=len*i.size:=by rw[List.length_take,List.length_drop,Array.length_toList];omega
   refine⟨(c.toList.drop (r0.base+off)).take (len*i.size),hl2,VRL.of_get (by omega) (fun j a v ha hv=> ?_),fun w1 hw1=> ?_⟩
   ·have hj:j<len*i.size:=by
     have:=(List.getElem?_eq_some_iff.1 ha).1;omega
    rw[List.getElem?_take_of_lt hj,List.getElem?_drop,Array.getElem?_toList] at hv;rw[List.getElem?_drop] at ha;obtain⟨u',hu',hR⟩:=q6 (off+j) a ha (hT _);rw[<-Nat.add_assoc,hv] at hu';cases hu';exact hR
   ·have hrc:=run_cells (P:=P) (w:=w1) (a:=ad) (vs:=(c.toList.drop (r0.base+off)).take (len*i.size)) (fun j v hv=> ?_)
    ·rw[hl2] at hrc
     exact hrc
    have hj:j<len*i.size:=by
     have:=(List.getElem?_eq_some_iff.1 hv).1;omega
    rw[List.getElem?_take_of_lt hj,List.getElem?_drop,Array.getElem?_toList] at hv;rw[cell_heap hw1,had,RB.at_add];unfold RB.at
    rw[cell_in q2,<-Nat.add_assoc];exact hv
 obtain⟨os,o1,o2,o3⟩:=holds;obtain⟨cap2,m3,m4⟩:=run_append_more (ty:=ty) (base:=some ad) (sLen:=len) (sCap:=cap) (olds:=os) hu hi hzi hun g3 g4 o3 (by omega) (by omega) c2;have hkill:=Post.kill hp.good hbg trivial (Still.refl w);have hpre3:=hp.next hmk (Mono.new _ (.cells (2*e) (cs0.drop off++cs))) hkill
 have hcz:((os.toArray++vs.toArray)++Builtin.zeroCells z.cells (cap2-(len+n))).size=cap2*i.size:=by
  have:(Builtin.zeroCells z.cells (cap2-(len+n))).size=(cap2-(len+n))*z.cells.size:=by simp[Builtin.zeroCells]
  rw[Array.size_append,Array.size_append,this,hzs];simp only[List.size_toArray,o1,g2];rw[<-Nat.add_mul,<-Nat.add_mul];congr 1;omega
 have hos:=o2.append g1;have hosl:=hos.length;refine⟨_,_,_,m4,hkill.trans hmk (Mono.new _ _) (made_ok hpre3 ((Add.push w _).drew _) (fun o _=>by simp) ?_ (fun j a ha=> ?_)),?_⟩
 ·rw[hcz,<-hosl,List.length_append,o1,g2,<-Nat.add_mul]
  exact Nat.mul_le_mul_right _ m3
 ·obtain⟨u',hu',hR⟩:=hos.get j ha
  refine⟨u',?_,hR⟩;have hj:j<(os++vs).length:=(List.getElem?_eq_some_iff.1 hu').1;rw[Array.getElem?_append_left (by simpa using hj)];simpa using hu'
 ·refine .slice s.n 0 (len+n) (len+n) i.size _ _ _ (Env.add_self _ _) (n_) m3 (.inr ⟨rfl,?_⟩)
  show 0+cap2*i.size<=((os.toArray++vs.toArray)++Builtin.zeroCells z.cells (cap2-(len+n))).size;rw[hcz];omega
end
theorem bAppend_ok{t u ty:TypeId}{x y v:AV}{x' y':Value}(h:bAppend P t x y s=some (v,s'))(hun:(∃e',P.underlying u=some (.slice e'))\/P.underlying u=some .string)(hp:Pre ρ T s s' w)(hx:VR ρ x x')(hy:VR ρ y y'):OK1 P (Builtin.append_ #[t,u] ty #[x',y']) ρ T s w v s':=by
 unfold bAppend at h;split at h
 ·rename_i e hu
  split at h
  ·rename_i i hi
   split at h
   ·cases h
   ·rename_i n cs s1 hn
    obtain⟨m1,hs1,hn1⟩:=newA_mono hn;split at h
    ·rename_i hcond
     simp only[Bool.and_eq_true,decide_eq_true_eq] at hcond;obtain⟨⟨⟨⟨c1,c2⟩,c3⟩,c4⟩,c5⟩:=hcond
     have hz5:∃z,i.zero=some z/\z.cells.size=i.size:=by
      unfold zOk at c5;split at c5
      ·rename_i zl hzl
       obtain⟨zv,hz1,hz2⟩:=zeroC_info (ρ:=ρ) hzl hi;have:=hz2.size;have h6:=of_decide_eq_true c5;exact⟨zv,hz1,by omega⟩
      ·cases c5
     obtain⟨z,hzi,hzs⟩:=hz5;have key:Mono s1 s'->∃vs:List Value,VRL ρ cs vs/\vs.length=n*i.size/\(∀w1,(Builtin.lenOf y').run P w1= .ok n w1)/\∀w1:World,w1.heap=w.heap->(Builtin.firstCells i.size n y').run P w1= .ok vs.toArray w1:=fun m2=>newA_ok hn (hp.first m2) hy;have hpost:Post ρ T s w ρ s1 w:=Post.same hp.good hs1 hn1 (Still.refl w);split at h
     ·cases hx
      split at h
      ·rename_i h0
       cases h;obtain⟨vs,g1,g2,g3,g4⟩:=key (Mono.refl _);subst h0;have hr:=run_append_room_ (ty:=ty) (base:=none) (sLen:=0) (sCap:=0) hu hi hun g3 g4 (n_);exact⟨ρ,w,_,hr,hpost,.nils⟩
      ·rename_i h0
       cases h;obtain⟨vs,g1,g2,g3,g4⟩:=key (Mono.new _ _);exact(app_nil hu hi hzi hzs hun g1 g2 g3 g4 c1 c2 c3 c4 (by omega) (hp.next m1 (Mono.new _ _) hpost)).after m1 (Mono.new _ _) hpost
     ·rename_i b off len mc es
      cases hx with
      |slice _ _ _ _ _ r ad cap hb k1 k2 k3=>
      split at h
      ·rename_i h0
       cases h;obtain⟨vs,g1,g2,g3,g4⟩:=key (Mono.refl _);subst h0;have hvs:vs=[]:=List.length_eq_zero_iff.1 (by omega);subst hvs;have hr:=run_append_room_ (w:=w) (ty:=ty) (base:=some ad) (sLen:=len) (sCap:=cap) hu hi hun g3 g4 (by omega);exact⟨ρ,w,_,hr,hpost,.slice b off len mc es r ad cap hb k1 k2 k3⟩
      ·rename_i h0
       split at h
       ·rename_i t0 cs0 hbg
        split at h
        ·rename_i hc
         obtain⟨hc1,hc2,hc3⟩:=hc;subst hc2;subst hc1;split at h
         ·rename_i hroom
          split at h
          ·rename_i cs1 hset
           cases h;have hm2:Mono s1 ((s1.put b (.cells (2*e) cs1)).note (.all b)):=Mono.put_note _ _ _ ⟨_,hbg,trivial⟩;obtain⟨vs,g1,g2,g3,g4⟩:=key hm2;obtain⟨had,hfit⟩:=k3.resolve_left (by omega);subst had;exact(app_in hu hi hzi hzs hun g1 g2 g3 g4 c1 c2 c3 c4 (by omega) hbg hset (hp.next m1 hm2 hpost) hb hroom k2 hfit).after m1 hm2 hpost
          ·cases h
         ·rename_i hroom
          split at h
          ·rename_i htop
           cases h;have hm2:Mono s1 (((s1.put b .dead).note (.all b)).new (.cells (2*e) (cs0.drop off++cs))):=(Mono.put_note _ _ .dead ⟨_,hbg,trivial⟩).trans (Mono.new _ _);obtain⟨vs,g1,g2,g3,g4⟩:=key hm2;by_cases hcap:len+n<=cap
           ·obtain⟨had,hfit⟩:=k3.resolve_left (by omega)
            subst had;exact(app_adopt hu hi hzi hzs hun g1 g2 g3 g4 c1 c2 c3 c4 (by omega) hbg htop (hp.next m1 hm2 hpost) hb hcap hfit).after m1 hm2 hpost
           ·exact(app_more hu hi hzi hzs hun g1 g2 g3 g4 c1 c2 c3 c4 (by omega) hbg htop (hp.next m1 hm2 hpost) hb hc3 (by omega) (by omega) k3).after m1 hm2 hpost
          ·cases h
        ·cases h
       ·cases h
     ·cases h
    ·cases h
  ·cases h
 ·cases h
end
end Go.Proofs.YtnocnbklhikmnaaGreatDoor.Rk
