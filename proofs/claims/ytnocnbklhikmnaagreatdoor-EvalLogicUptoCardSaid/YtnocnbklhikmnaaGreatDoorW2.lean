/- Part 2 of the proof. -/
import Derived.Test.YtnocnbklhikmnaaGreatDoorW0
import Derived.Test.YtnocnbklhikmnaaGreatDoorProg
import Derived.WalkKit
import Derived.WalkSpells
import Derived.WalkLawsBesides
import Derived.Lib.Hide
import Derived.Deep.DeepMust
import Derived.Deep.DeepFit
import Derived.Deep.LoopGhost
import Derived.Deep.Draws
import Derived.Laws.Rows
import Derived.Laws.MakeOwn
import Derived.Laws.BytesArg
import Derived.Deep.QuietTactic
import Derived.Deep.OwnRows
import Derived.StillTail
import Derived.Deep.MidRow
set_option linter.unusedVariables false
set_option maxRecDepth 1000000
set_option maxHeartbeats 16000000
namespace Go.Proofs.YtnocnbklhikmnaaGreatDoor
open Go.RowKit
end Go.Proofs.YtnocnbklhikmnaaGreatDoor
namespace Go.Proofs.YtnocnbklhikmnaaGreatDoor
open Go.RowKit
def Blk(w:World)(g:Nat)(t:TypeId)(cs:Array Value):Prop:=w.heap[g]? =some (.cells cs t (0,0))
section
variable {w w':World} {g:Nat} {t:TypeId} {cs:Array Value}
theorem Blk.lt(h:Blk w g t cs):g<w.heap.size:=by
 rcases Nat.lt_or_ge g w.heap.size with hlt|hge
 ·exact hlt
 ·unfold Blk at h;rw[Array.getElem?_eq_none hge] at h;cases h
theorem Blk.cell(h:Blk w g t cs)(i:Nat):w.cell? ⟨g,i,none⟩=cs[i]? :=cell_of_row w g i cs t (0,0) h
theorem Blk.frozen(h:Blk w g t cs)(i:Nat):w.frozen? ⟨g,i,none⟩=false:=by
 unfold Blk at h;simp[World.frozen?,h]
theorem Blk.new(w:World)(t:TypeId)(cs:Array Value):Blk (w.alloc (.cells cs t)) w.heap.size t cs:=heap_alloc_new w _
theorem Blk.drew(h:Blk w g t cs):Blk w.drew g t cs:=h
theorem Blk.alloc(h:Blk w g t cs)(o:Obj):Blk (w.alloc o) g t cs:=(Below.heap_alloc w o g h.lt).trans h
theorem Blk.set_(h:Blk w g t cs)(i:Nat)(u:Value):Blk (w.setCell ⟨g,i,none⟩ u) g t (cs.setIfInBounds i u):=by
 unfold Blk at h⊢;simp[World.setCell,Array.getElem?_modify,h]
theorem Blk.far(h:Blk w g t cs){p:Addr}(hp:g≠p.block)(u:Value):Blk (w.setCell p u) g t cs:=(Below.heap_setCell w p u g hp).trans h
theorem Blk.below{B:Nat}(h:Blk w g t cs)(hb:Below B w w')(hg:g<B):Blk w' g t cs:=(hb.block g hg).trans h
theorem Blk.grown{row:Option Nat}(h:Blk w g t cs)(hb:w.grownBy w' row)(hg:some g≠row):Blk w' g t cs:=(hb.block g h.lt hg).trans h
end
theorem below_drewN{B:Nat}{a w:World}(h:Below B a w)(n:Nat):Below B a (w.drewN n):=⟨h.os,h.tape,h.output,h.size,h.block⟩
theorem bcell{W w1:World}(hb:Below W.heap.size W w1):(∀b o,b<W.heap.size->w1.cell? ⟨b,o,none⟩=W.cell? ⟨b,o,none⟩)/\(∀b o,b<W.heap.size->w1.frozen? ⟨b,o,none⟩=W.frozen? ⟨b,o,none⟩):=
 ⟨fun b o h=>hb.cell (p:=⟨b,o,none⟩) h,fun b o h=>hb.frozen (p:=⟨b,o,none⟩) h⟩
theorem run_make_rowN{P:Program}(t e:TypeId)(i:TypeInfo)(z:Value)(ht:P.underlying t=some (.slice e))(hi:P.info? e=some i)(hz:i.zero=some z)(kl kc:IntKind)(n c:Nat)(hnc:n<=c)(hbytes:i.bytes*c<=281474976710656)(h63:c<=9223372036854775807)(w:World):
 (Instr.makeSlice t (.int kl (n:Int)) (.int kc (c:Int))).run P w= .ok (.slice (some ⟨w.heap.size,0,none⟩) n c) (w.alloc (.cells (madeCells z.cells (c*i.size)) e)):=by
 have hb:(i.bytes:Int)*(c:Int)<=281474976710656:=by
  have h:((i.bytes*c:Nat):Int)<=281474976710656:=by omega
  rwa [Int.natCast_mul] at h
 have hr:=run_make (P:=P) w t e i z ht hi hz kl kc n c (by omega) (by omega) hb (by omega);simp only[Int.toNat_natCast] at hr;exact hr
def cellsU8(l:List UInt8):Array Value:=(l.map fun b=>Value.int .u8 (b.toNat:Int)).toArray
theorem cellsU8_get(l:List UInt8)(i:Nat):(cellsU8 l)[i]? =l[i]?.map fun b=>Value.int .u8 (b.toNat:Int):=by simp[cellsU8]
theorem cellsU8_size(l:List UInt8):(cellsU8 l).size=l.length:=by simp[cellsU8]
theorem cellsU8_set(l:List UInt8)(i:Nat)(b:UInt8):(cellsU8 l).setIfInBounds i (.int .u8 (b.toNat:Int))=cellsU8 (l.set i b):=by
 simp[cellsU8,List.map_set]
theorem infoU8:(Tryz.prog.info? 5).map (fun i=>(i.zero,i.size,i.bytes))=some (some (.int .u8 0),1,1):=by kernel_rfl
theorem madeU8(n:Nat):madeCells (Value.int .u8 0).cells n=cellsU8 (List.replicate n 0):=by
 apply Array.ext_getElem?;intro i;simp[madeCells,cellsU8,Value.cells];rcases Nat.lt_or_ge i n with h|h
 ·simp[h,Nat.mod_one]
 ·simp[Nat.not_lt.2 h]
theorem make_bytes(kl kc:IntKind)(n c:Nat)(hnc:n<=c)(hc:c<=281474976710656)(w:World):
 (Instr.makeSlice 82 (.int kl (n:Int)) (.int kc (c:Int))).run Tryz.prog w= .ok (.slice (some ⟨w.heap.size,0,none⟩) n c) (w.alloc (.cells (cellsU8 (List.replicate c 0)) 5)):=by
 obtain⟨i,hi,hz,hs,hb⟩:=info_parts infoU8;have h:=run_make_rowN 82 5 i _ Tryz.underlying82 hi hz kl kc n c hnc (by rw[hb];omega) (by omega) w;rw[hs,Nat.mul_one,madeU8] at h;exact h
theorem bytes_string{w:World}{g n c:Nat}{t:TypeId}{l:List UInt8}(h:Blk w g t (cellsU8 l))(hn:n<=l.length):
 (convert 82 9 (.slice (some ⟨g,0,none⟩) n c)).run Tryz.prog w= .ok (.string ⟨(l.take n).toArray⟩) w:=by
 have h1:=run_convert_bytes_arg (P:=Tryz.prog) w 82 5 Tryz.underlying82 Tryz.underlying5 g 0 n c ((l.take n).map fun b=>(b.toNat:Int)) (by simp[hn]) (fun i hi=>by
  rw[Nat.zero_add,h.cell,cellsU8_get];have hil:i<l.length:=by omega
  simp[hi,hil]) 9 Tryz.underlying9
 rw[h1];have he:((fun n:Int=>UInt8.ofNat n.toNat)∘fun b:UInt8=>(b.toNat:Int))=id:=by funext b;simp
 simp[strOfNums,he]
theorem bytes_string_off{w:World}{g off n c:Nat}{t:TypeId}{l:List UInt8}(h:Blk w g t (cellsU8 l))(hn:off+n<=l.length):
 (convert 82 9 (.slice (some ⟨g,off,none⟩) n c)).run Tryz.prog w= .ok (.string ⟨((l.drop off).take n).toArray⟩) w:=by
 have h1:=run_convert_bytes_arg (P:=Tryz.prog) w 82 5 Tryz.underlying82 Tryz.underlying5 g off n c (((l.drop off).take n).map fun b=>(b.toNat:Int)) (by simp;omega) (fun i hi=>by
  rw[h.cell,cellsU8_get];have hil:off+i<l.length:=by omega
  simp[hi,hil,List.getElem?_drop]) 9 Tryz.underlying9
 rw[h1];have he:((fun n:Int=>UInt8.ofNat n.toNat)∘fun b:UInt8=>(b.toNat:Int))=id:=by funext b;simp
 simp[strOfNums,he]
structure Ext(w:World) where
 wd:World
 hb:Below w.heap.size w wd
instance (w:World):Nonempty (Ext w):=⟨⟨w,Below.refl _ _⟩⟩
theorem Ext.cell{w:World}(x:Ext w){p:Addr}(h:p.block<w.heap.size):x.wd.cell? p=w.cell? p:=x.hb.cell h
theorem Ext.calls{P:Program}{f:FuncId}{args:Array Value}{w:World}(x:Ext w){v:Value}(h:Calls P f args x.wd fun e w'=>e= .returned v/\Below x.wd.heap.size x.wd w'):
 Calls P f args x.wd fun e w''=>e= .returned v/\∃y:Ext w,w''=y.wd:=
 h.mono fun _ w'' ⟨he,hb⟩=>⟨he,⟨w'',x.hb.trans (hb.mono x.hb.size)⟩,rfl⟩
theorem Ext.calls_same{P:Program}{f:FuncId}{args:Array Value}{w:World}(x:Ext w){v:Value}(h:Calls P f args x.wd fun e w'=>e= .returned v/\x.wd=w'):
 Calls P f args x.wd fun e w''=>e= .returned v/\∃y:Ext w,w''=y.wd:=
 h.mono fun _ _ ⟨he,hw⟩=>⟨he,x,hw.symm⟩
theorem wp_region_ext{P:Program}{id:Nat}{Q:Exit->Act->World->Prop}{a:Act}{w:World}{l:List Oper}(hm:P.follows .mixedOrders=true)(hB:Region.lexB .any l.toArray=true)(h:wpQuiet P l.toArray (fun w'=>∃x:Ext w,w'=x.wd) (fun a'=>∀w',Below w.heap.size w w'->Q .normal a' w') l a):(Code.region id l.toArray true).wp P Q a w:=by
 refine wp_region_quiet (C:=fun w'=>∃x:Ext w,w'=x.wd) hm hB ⟨⟨{w with drawn:=w.drawn+1},⟨rfl,rfl,rfl,n_,fun _ _=>rfl⟩⟩,rfl⟩ ?_
 have e:(fun a'=>∀w',(∃x:Ext w,w'=x.wd)->Q .normal a' w')=fun a'=>∀w',Below w.heap.size w w'->Q .normal a' w':=by
  funext a';exact propext ⟨fun h w' hb=>h w' ⟨⟨w',hb⟩,rfl⟩,fun h w' ⟨x,hx⟩=>hx▸h _ x.hb⟩
 rw[e];simpa using h
end Go.Proofs.YtnocnbklhikmnaaGreatDoor
namespace Go.Proofs.YtnocnbklhikmnaaGreatDoor
open Go Go.RowKit
section
variable (P:Program) (ops:Array Oper) (R:World->World->Prop) (B:Nat->Option (Value->World->Prop)) (late:List Nat) (w0:World)
def uponF(K:Value->World->Prop):Result Next->Prop
 | .ok (.value u) w'=>K u w'
 | .ok .skip w'=>K undef w'
 | .ok (.enter f args) w'=>Calls P f args w' fun e w''=>∃u,e= .returned u/\K u w''
 |_=>False
def stepF(o:Oper)(a:Act)(w:World)(K:Value->World->Prop):Prop:=
 if Region.wanted o (yielded ops a.tmps)=true then uponF P K ((execOp a.eval o).run P w) else K undef w
def knownF(k:Nat)(vs:Nat->Value)(w:World):Prop:=R w0 w/\∀j φ,B j=some φ->Region.waitsFor .any ops k j=true->φ (vs j) w
def wpFree(n:Nat)(Q:Act->World->Prop):List Oper->Nat->((Nat->Value)->Act)->Prop
 |[],_,A=>∀vs w,R w0 w->(∀j φ,j<n->B j=some φ->φ (vs j) w)->Q (A vs) w
 |o::rest,k,A=>match B k with
  |none=>∃v,((late.contains k=false/\∀vs w,knownF ops R B w0 k vs w->∀K:Value->World->Prop,(∀w',R w w'->K v w')->stepF P ops o (A vs) w K)\/(late.contains k=true/\∀vs w,(execOp (A vs).eval o).run P w= .ok (.value v) w))/\wpFree n Q rest (k+1) (fun vs=>(A vs).put o.dst v)
  |some φ=>(∀vs w,knownF ops R B w0 k vs w->∀K:Value->World->Prop,(∀v w',R w w'->φ v w'->K v w')->stepF P ops o (A vs) w K)/\wpFree n Q rest (k+1) (fun vs=>(A vs).put o.dst (vs k))
end
section
variable {P:Program} {ops:Array Oper} {R:World->World->Prop} {B:Nat->Option (Value->World->Prop)} {late:List Nat} {w0:World} {n:Nat}
def valF(B:Nat->Option (Value->World->Prop))(c vs:Nat->Value)(k:Nat):Value:=if(B k).isSome=true then vs k else c k
def textF(ops:Array Oper)(B:Nat->Option (Value->World->Prop))(a:Act)(c vs:Nat->Value):Nat->Act
 |0=>a
 |k+1=>(textF ops B a c vs k).put ((ops[k]?).bind (·.dst)) (valF B c vs k)
theorem textF_congr{a:Act}{c c' vs:Nat->Value}:∀k,(∀j,j<k->c j=c' j)->textF ops B a c vs k=textF ops B a c' vs k
 |0,_=>rfl
 |k+1,h=>by
  unfold textF;rw[textF_congr k fun j hj=>h j (by omega)];simp[valF,h k (by omega)]
structure StepsF(P:Program)(ops:Array Oper)(R:World->World->Prop)(B:Nat->Option (Value->World->Prop))(late:List Nat)(w0:World)(n:Nat)(Q:Act->World->Prop)(a:Act)(c:Nat->Value)(k:Nat):Prop where
 pure:∀i o,k<=i->i<n->ops[i]? =some o->late.contains i=true->B i=none->∀vs w,(execOp (textF ops B a c vs i).eval o).run P w= .ok (.value (c i)) w
 step:∀i o,k<=i->i<n->ops[i]? =some o->(late.contains i=false\/(B i).isSome=true)->∀vs w,knownF ops R B w0 i vs w->stepF P ops o (textF ops B a c vs i) w fun v w'=>R w w'/\(∀φ,B i=some φ->φ v w')/\(B i=none->v=c i)
 last:∀vs w,R w0 w->(∀j φ,j<n->B j=some φ->φ (vs j) w)->Q (textF ops B a c vs n) w
theorem steps_of{Q:Act->World->Prop}{a:Act}:∀(l:List Oper) (k:Nat) (A:(Nat->Value)->Act) (c:Nat->Value),(∀j,j<l.length->l[j]? =ops[k+j]?)->k+l.length=n->(∀vs,A vs=textF ops B a c vs k)->
 wpFree P ops R B late w0 n Q l k A->∃c',(∀j,j<k->c' j=c j)/\StepsF P ops R B late w0 n Q a c' k
 |[],k,A,c,_,hk,hA,h=>⟨c,fun _ _=>rfl,fun i o h1 h2=>by simp at hk;omega,fun i o h1 h2=>by simp at hk;omega,fun vs w hr hj=>by
   have:k=n:=by simpa using hk
   subst this;rw[<-hA];exact h vs w hr hj⟩
 |o::l,k,A,c,hl,hk,hA,h=>by
  have h0:ops[k]? =some o:=by simpa using(hl 0 (by simp)).symm
  have hl':∀j,j<l.length->l[j]? =ops[k+1+j]? :=fun j hj=>by have:=hl (j+1) (by simp;omega);simpa[Nat.add_assoc,Nat.add_comm 1 j] using this
  have hk':k+1+l.length=n:=by simp at hk;omega
  unfold wpFree at h;cases hB:B k with
  |none=>
   simp only[hB] at h;obtain⟨v,h1,h2⟩:=h
   let c1:Nat->Value:=fun j=>if j=k then v else c j
   have hA1:∀vs,(A vs).put o.dst v=textF ops B a c1 vs (k+1):=fun vs=>by
    unfold textF;rw[hA,textF_congr (c:=c1) (c':=c) k (fun j hj=>by simp[c1];omega)];simp[h0,valF,hB,c1]
   obtain⟨c2,hc2,hs⟩:=steps_of l (k+1) _ c1 hl' hk' hA1 h2;refine⟨c2,fun j hj=>by rw[hc2 j (by omega)];simp[c1];omega,fun i oi hi hin hoi hla hBi vs w=> ?_,fun i oi hi hin hoi hla vs w hkn=> ?_,hs.last⟩
   ·by_cases hik:i=k
    ·subst hik
     have:oi=o:=Option.some.inj (hoi.symm.trans h0);subst this;rw[textF_congr (c:=c2) (c':=c) i (fun j hj=>by rw[hc2 j (by omega)];simp[c1];omega),<-hA];rcases h1 with⟨hn,_⟩|⟨_,h1⟩
     ·rw[hla] at hn;cases hn
     ·rw[h1 vs w,hc2 i (by omega)];simp[c1]
    ·exact hs.pure i oi (by omega) hin hoi hla hBi vs w
   by_cases hik:i=k
   ·subst hik
    have:oi=o:=Option.some.inj (hoi.symm.trans h0);subst this;rw[textF_congr (c:=c2) (c':=c) i (fun j hj=>by rw[hc2 j (by omega)];simp[c1];omega),<-hA];rcases h1 with⟨_,h1⟩|⟨hn,_⟩
    ·refine h1 vs w hkn _ fun w' hr=>⟨hr,(fun φ hφ=>by rw[hB] at hφ;cases hφ),fun _=>by rw[hc2 i (by omega)];simp[c1]⟩
    ·rcases hla with hla|hla
     ·rw[hn] at hla;cases hla
     ·rw[hB] at hla;cases hla
   ·exact hs.step i oi (by omega) hin hoi hla vs w hkn
  |some φ=>
   simp only[hB] at h;obtain⟨h1,h2⟩:=h
   have hA1:∀vs,(A vs).put o.dst (vs k)=textF ops B a c vs (k+1):=fun vs=>by
    unfold textF;rw[hA];simp[h0,valF,hB]
   obtain⟨c2,hc2,hs⟩:=steps_of l (k+1) _ c hl' hk' hA1 h2;refine⟨c2,fun j hj=>hc2 j (by omega),fun i oi hi hin hoi hla hBi vs w=> ?_,fun i oi hi hin hoi hla vs w hkn=> ?_,hs.last⟩
   ·by_cases hik:i=k
    ·subst hik
     rw[hB] at hBi;cases hBi
    ·exact hs.pure i oi (by omega) hin hoi hla hBi vs w
   by_cases hik:i=k
   ·subst hik
    have:oi=o:=Option.some.inj (hoi.symm.trans h0);subst this;rw[textF_congr (c:=c2) (c':=c) i (fun j hj=>hc2 j (by omega)),<-hA];refine h1 vs w hkn _ fun v w' hr hp=>⟨hr,fun ψ hψ=> ?_,fun hn=>by rw[hB] at hn;cases hn⟩
    rw[hB] at hψ;cases hψ;exact hp
   ·exact hs.step i oi (by omega) hin hoi hla vs w hkn
def needsF(ops:Array Oper)(n:Nat):List Nat:=(List.range n).foldr (fun i S=>if S.any (fun k=>Region.waitsFor .any ops k i)=true then i::S else S) [n]
theorem needs_listed{listed:Array Bool}(hcl:∀j oj,ops[j]? =some oj->listed.getD j false=true->∀e∈oj.after,Region.binds .any e=true->listed.getD e.on false=true)(hn:∀j,Region.waitsFor .any ops n j=true->listed.getD j false=true):
 ∀(l:List Nat) (i:Nat),i∈l.foldr (fun i S=>if S.any (fun k=>Region.waitsFor .any ops k i)=true then i::S else S) [n]->i=n\/listed.getD i false=true
 |[],i,h=>by simp at h;exact Or.inl h
 |x::l,i,h=>by
  have ih:=needs_listed hcl hn l;rw[List.foldr_cons] at h;split at h
  ·rename_i hx
   rcases List.mem_cons.1 h with h|h
   ·subst h
    obtain⟨k,hk,hw⟩:=List.any_eq_true.1 hx;rcases ih k hk with hk|hk
    ·subst hk;exact Or.inr (hn _ hw)
    ·obtain⟨ok,hok,e,he,hb,hon⟩:=Region.waitsFor_spec hw
     rw[<-hon];exact Or.inr (hcl k ok hok hk e he hb)
   ·exact ih i h
  ·exact ih i h
def freeB(ops:Array Oper)(late:List Nat)(n:Nat):Bool:=
 Region.noSelect ops&&(decide (n=ops.size)||(decide (n<ops.size)&&((List.range n).all fun i=>late.contains i||(needsF ops n).contains i)&&Region.chainB .any ops n))&&
 (late.all fun i=>decide (i<n)&&Region.free .any ops (Array.ofFn fun j:Fin ops.size=>Region.waitsFor .any ops i j.val) i&&((ops[i]?).map fun o=>o.guard.isNone).getD false)&&
 ((List.range ops.size).all fun i=>match ops[i]?with
   |none=>true
   |some oi=>oi.after.all fun e=> !Region.binds .any e||decide (e.on<i))&&
 ((List.range n).all fun i=>(List.range n).all fun j=>match(ops[i]?).bind (·.dst),(ops[j]?).bind (·.dst) with
   |some d,some d'=>decide (i=j)||d !=d'
   |_,_=>true)&&
 ((List.range n).all fun i=>match ops[i]?with
   |none=>true
   |some oi=>(oi.looksAt ops).all fun d=>(List.range n).all fun j=>match(ops[j]?).bind (·.dst) with
    |some d'=>d !=d'||(decide (j<i)&&Region.waitsFor .any ops i j)
    |none=>true)&&
 Region.seqB .any ops (ops.size-n) n (Array.ofFn fun i:Fin ops.size=>decide (i.val<n))
structure Free(ops:Array Oper)(late:List Nat)(n:Nat):Prop where
 sel:∀(j:Nat) (o:Oper) cs b,ops[j]? =some o->o.op≠.select cs b
 le:n<=ops.size
 waits:n<ops.size->(∀i,i<n->late.contains i=false->i∈needsF ops n)/\Region.chainB .any ops n=true
 late:∀i,late.contains i=true->i<n/\Region.free .any ops (Array.ofFn fun j:Fin ops.size=>Region.waitsFor .any ops i j.val) i=true/\∃o,ops[i]? =some o/\o.guard=none
 after:∀i oi,ops[i]? =some oi->∀e∈oi.after,Region.binds .any e=true->e.on<i
 dst:∀i j oi oj d,i<n->j<n->ops[i]? =some oi->ops[j]? =some oj->oi.dst=some d->oj.dst=some d->i=j
 looks:∀i j oi oj d,i<n->j<n->ops[i]? =some oi->ops[j]? =some oj->d∈oi.looksAt ops->oj.dst=some d->j<i/\Region.waitsFor .any ops i j=true
 seq:Region.seqB .any ops (ops.size-n) n (Array.ofFn fun i:Fin ops.size=>decide (i.val<n))=true
theorem free_of(h:freeB ops late n=true):Free ops late n:=by
 simp only[freeB,Bool.and_eq_true,Bool.or_eq_true,decide_eq_true_eq] at h;obtain⟨⟨⟨⟨⟨⟨h1,h2⟩,h7⟩,h3⟩,h4⟩,h5⟩,h6⟩:=h;refine⟨Region.noSelect_spec h1,by omega,fun hn=> ?_,fun i hi=> ?_,fun i oi hi e he hb=> ?_,fun i j oi oj d hi hj hoi hoj hd hd'=> ?_,fun i j oi oj d hi hj hoi hoj hd hd'=> ?_,h6⟩
 ·rcases h2 with h2|h2
  ·omega
  ·exact⟨fun i hi hl=>by
    have h:=List.all_eq_true.1 h2.1.2 i (List.mem_range.2 hi);rw[hl] at h;simpa using h,h2.2⟩
 ·have h:=List.all_eq_true.1 h7 i (by simpa using hi)
  simp only[Bool.and_eq_true,decide_eq_true_eq] at h;refine⟨h.1.1,h.1.2,?_⟩;have h8:=h.2;cases ho:ops[i]?with
  |none=>rw[ho] at h8;cases h8
  |some o=>exact⟨o,rfl,by rw[ho] at h8;simpa using h8⟩
 ·have h:=List.all_eq_true.1 h3 i (List.mem_range.2 (Array.getElem?_eq_some_iff.1 hi).1)
  simp only[hi] at h;have h:=Array.all_eq_true'.1 h e he;simpa[hb] using h
 ·have h:=List.all_eq_true.1 (List.all_eq_true.1 h4 i (List.mem_range.2 hi)) j (List.mem_range.2 hj)
  simpa[hoi,hoj,hd,hd'] using h
 ·have h:=List.all_eq_true.1 h5 i (List.mem_range.2 hi)
  simp only[hoi] at h;have h:=List.all_eq_true.1 (List.all_eq_true.1 h d hd) j (List.mem_range.2 hj);simpa[hoj,hd'] using h
structure InvF(ops:Array Oper)(R:World->World->Prop)(B:Nat->Option (Value->World->Prop))(w0:World)(n:Nat)(a:Act)(c vs:Nat->Value)(listed:Array Bool)(a':Act)(w':World):Prop where
 head:HeadInv .any ops n listed
 world:R w0 w'
 facts:∀j φ,j<n->B j=some φ->listed.getD j false=true->φ (vs j) w'
 defers:a'.defers=a.defers
 size:a'.tmps.size=a.tmps.size
 other:∀d,(∀j o,j<n->ops[j]? =some o->listed.getD j false=true->o.dst≠some d)->a'.tmps[d]? =a.tmps[d]?
 slot:∀j o d,j<n->ops[j]? =some o->listed.getD j false=true->o.dst=some d->d<a.tmps.size->a'.tmps[d]? =some (valF B c vs j)
theorem textF_size{a:Act}{c vs:Nat->Value}:∀k,(textF ops B a c vs k).tmps.size=a.tmps.size/\(textF ops B a c vs k).defers=a.defers
 |0=>⟨rfl,rfl⟩
 |k+1=>by
  obtain⟨h1,h2⟩:=textF_size (a:=a) (c:=c) (vs:=vs) k;unfold textF;cases(ops[k]?).bind (·.dst)<;>simp[Act.put,h1,h2]
theorem textF_other{a:Act}{c vs:Nat->Value}{d:Tmp}:∀k,(∀j o,j<k->ops[j]? =some o->o.dst≠some d)->(textF ops B a c vs k).tmps[d]? =a.tmps[d]?
 |0,_=>rfl
 |k+1,h=>by
  have ih:=textF_other (a:=a) (c:=c) (vs:=vs) k fun j o hj=>h j o (by omega);unfold textF;cases ho:ops[k]?with
  |none=>simpa[Act.put] using ih
  |some o=>
   cases hd:o.dst with
   |none=>simpa[Act.put,hd] using ih
   |some e=>
    have hne:e≠d:=fun he=>h k o (by omega) ho (by rw[hd,he]);simp[Act.put,hd,Array.getElem?_setIfInBounds_ne hne,ih]
theorem textF_slot{a:Act}{c vs:Nat->Value}{d:Tmp}{j:Nat}{o:Oper}(hf:Free ops late n)(hj:ops[j]? =some o)(hd:o.dst=some d)(hs:d<a.tmps.size):∀k,j<k->k<=n->(textF ops B a c vs k).tmps[d]? =some (valF B c vs j)
 |0,h,_=>by omega
 |k+1,h,hn=>by
  have hsz:=(textF_size (ops:=ops) (B:=B) (a:=a) (c:=c) (vs:=vs) k).1;unfold textF;by_cases hjk:j=k
  ·subst hjk
   simp[hj,hd,Act.put,hsz,hs]
  ·have ih:=textF_slot hf hj hd hs (c:=c) (vs:=vs) k (by omega) (by omega)
   cases ho:ops[k]?with
   |none=>simpa[Act.put] using ih
   |some ok=>
    cases hdk:ok.dst with
    |none=>simpa[Act.put,hdk] using ih
    |some e=>
     have hne:e≠d:=fun he=>hjk (hf.dst j k o ok d (by omega) (by omega) hj ho hd (by rw[hdk,he]));simp[Act.put,hdk,Array.getElem?_setIfInBounds_ne hne,ih]
theorem eval_eq{a a':Act}{x:Operand}(h:∀d,x= .tmp d->a'.tmps[d]? =a.tmps[d]?):a'.eval x=a.eval x:=by
 cases x with
 |tmp d=>simp[Act.eval,h d rfl]
 |_=>rfl
theorem same_of{a a':Act}{o:Oper}(hsel:∀cs b,o.op≠.select cs b)(h:∀d∈o.looksAt ops,a'.tmps[d]? =a.tmps[d]?):execOp a'.eval o=execOp a.eval o/\Region.wanted o (yielded ops a'.tmps)=Region.wanted o (yielded ops a.tmps):=by
 refine⟨execOp_congr o hsel fun x hx=>eval_eq fun d hd=>h d ?_,?_⟩
 ·subst hd
  exact List.mem_append_left _ (List.mem_filterMap.2 ⟨.tmp d,by simpa using hx,rfl⟩)
 ·unfold Region.wanted
  cases hg:o.guard with
  |none=>rfl
  |some gw=>
   obtain⟨g,want⟩:=gw
   have hy:yielded ops a'.tmps g=yielded ops a.tmps g:=by
    unfold yielded;cases ht:(ops[g]?).bind (·.dst) with
    |none=>rfl
    |some t=>
     have:=h t (by simp[Oper.looksAt,hg,ht]);simp[this]
   simp only[hy]
theorem same_text{a a':Act}{c vs:Nat->Value}{listed:Array Bool}{w':World}{i:Nat}{o:Oper}(hf:Free ops late n)(inv:InvF ops R B w0 n a c vs listed a' w')(hi:i<n)(ho:ops[i]? =some o)(hr:i∈Region.ready .any ops listed):execOp a'.eval o=execOp (textF ops B a c vs i).eval o/\Region.wanted o (yielded ops a'.tmps)=Region.wanted o (yielded ops (textF ops B a c vs i).tmps):=by
 obtain⟨hun,o2,ho2,hall⟩:=mem_ready.1 hr;have:o2=o:=Option.some.inj (ho2.symm.trans ho);subst this
 have hl:∀j,j<n->Region.waitsFor .any ops i j=true->listed.getD j false=true:=fun j hj hw=>by
  obtain⟨oi,hoi,e,he,hb,hon⟩:=Region.waitsFor_spec hw;have:oi=o2:=Option.some.inj (hoi.symm.trans ho);subst this;rw[<-hon];exact hall e he hb
 exact same_of (ops:=ops) (a:=textF ops B a c vs i) (a':=a') (o:=o2) (fun cs b=>hf.sel i o2 cs b ho) fun d hd=>by
  by_cases hw:∃j o,j<n/\ops[j]? =some o/\o.dst=some d
  ·obtain⟨j,oj,hj,hoj,hdj⟩:=hw
   obtain⟨hji,hwt⟩:=hf.looks i j o2 oj d hi hj ho hoj hd hdj;rcases Nat.lt_or_ge d a.tmps.size with hs|hs
   ·rw[inv.slot j oj d hj hoj (hl j hj hwt) hdj hs,textF_slot hf hoj hdj hs i hji (by omega)]
   ·rw[Array.getElem?_eq_none (by rw[inv.size];exact hs),Array.getElem?_eq_none (by rw[(textF_size i).1];exact hs)]
  ·rw[inv.other d fun j oj hj hoj _ hdj=>hw ⟨j,oj,hj,hoj,hdj⟩,textF_other i fun j oj hj hoj hdj=>hw ⟨j,oj,by omega,hoj,hdj⟩]
theorem op_of_step{a a':Act}{c vs:Nat->Value}{listed:Array Bool}{w':World}{i:Nat}{o:Oper}{K:Value->World->Prop}{Q':Exit->Act->World->Prop}(hf:Free ops late n)(inv:InvF ops R B w0 n a c vs listed a' w')(hi:i<n)(ho:ops[i]? =some o)(hr:i∈Region.ready .any ops listed)(h:stepF P ops o (textF ops B a c vs i) w' K):wpOp P ops Q' i (fun a2 w2=>∃v,a2=a'.put o.dst v/\K v w2) a' w':=by
 obtain⟨e1,e2⟩:=same_text hf inv hi ho hr;unfold stepF at h;rw[<-e1,<-e2] at h;unfold wpOp;simp only[ho];split
 ·rename_i hw
  simp only[hw,if_true] at h;refine .inl ?_;unfold Oper.wp;generalize (execOp a'.eval o).run P w'=r at*;cases r with
  |ok m w2=>
   cases m<;>simp only[uponF] at h<;>simp only[Oper.upon]
   case value u=>exact⟨u,rfl,h⟩
   case skip=>exact⟨undef,rfl,h⟩
   case enter f args=>
    refine Calls.mono h fun e w3 he=> ?_;obtain⟨u,rfl,hk⟩:=he;exact⟨u,rfl,hk⟩
   all_goals exact h.elim
  |halt x w2=>simp[uponF] at h
 ·rename_i hw
  simp only[hw] at h;exact⟨undef,rfl,h⟩
theorem inv_set{a a':Act}{c vs:Nat->Value}{listed:Array Bool}{w' w2:World}{i:Nat}{o:Oper}{v:Value}(hf:Free ops late n)(inv:InvF ops R B w0 n a c vs listed a' w')(hi:i<n)(ho:ops[i]? =some o)(hr:i∈Region.ready .any ops listed)(htr:R w0 w2)(hst:∀j φ v,B j=some φ->φ v w'->φ v w2)(hB:∀φ,B i=some φ->φ v w2)(hv:B i=none->v=c i):
 InvF ops R B w0 n a c (fun j=>if j=i then v else vs j) (listed.setIfInBounds i true) (a'.put o.dst v) w2:=by
 have hun:listed.getD i false=false:=getD_both (mem_ready.1 hr).1;have hold:∀j,j≠i->(listed.setIfInBounds i true).getD j false=true->listed.getD j false=true:=fun j hj h=>by rwa [getD_set_ne false (Ne.symm hj)] at h
 refine⟨inv.head.set hr hi,htr,fun j φ hj hφ hl=> ?_,?_,?_,fun d hd=> ?_,fun j oj d hj hoj hl hdj hs=> ?_⟩
 ·by_cases hji:j=i
  ·subst hji;simpa using hB φ hφ
  ·simp only[hji,if_false]
   exact hst j φ _ hφ (inv.facts j φ hj hφ (hold j hji hl))
 ·cases o.dst<;>simp[Act.put,inv.defers]
 ·cases o.dst<;>simp[Act.put,inv.size]
 ·have h1:=inv.other d fun j oj hj hoj hl=>hd j oj hj hoj (getD_set_true hl)
  cases hdo:o.dst with
  |none=>simpa[Act.put] using h1
  |some e=>
   have hsz:i<listed.size:=by rw[inv.head.size];exact(Array.getElem?_eq_some_iff.1 ho).1
   have hne:e≠d:=fun he=>hd i o hi ho (by simp[hsz]) (by rw[hdo,he]);simp[Act.put,Array.getElem?_setIfInBounds_ne hne,h1]
 ·by_cases hji:j=i
  ·subst hji
   have:oj=o:=Option.some.inj (hoj.symm.trans ho);subst this;simp only[hdj,Act.put,valF];rw[Array.getElem?_setIfInBounds_self_of_lt (by rw[inv.size];exact hs)];cases hBj:B j with
   |none=>simp[hv hBj]
   |some φ=>simp
  ·have h1:=inv.slot j oj d hj hoj (hold j hji hl) hdj hs
   have e1:valF B c (fun k=>if k=i then v else vs k) j=valF B c vs j:=by simp[valF,hji]
   rw[e1];cases hdo:o.dst with
   |none=>simpa[Act.put] using h1
   |some e=>
    have hne:e≠d:=fun he=>hji (hf.dst j i oj o d hj hi hoj ho hdj (by rw[hdo,he]));simp[Act.put,Array.getElem?_setIfInBounds_ne hne,h1]
theorem cnt_set(p q:Nat->Bool)(i:Nat)(hq:∀j,j≠i->q j=p j)(h0:q i=false)(hp:p i=true):∀n,i<n->(List.range n).countP q+1=(List.range n).countP p
 |0,h=>by omega
 |n+1,h=>by
  rw[List.range_succ,List.countP_append,List.countP_append];by_cases hin:i=n
  ·subst hin
   have:(List.range i).countP q=(List.range i).countP p:=List.countP_congr fun j hj=>by rw[hq j (by have:=List.mem_range.1 hj;omega)]
   simp[this,h0,hp]
  ·have ih:=cnt_set p q i hq h0 hp n (by omega)
   simp[hq n (Ne.symm hin)];omega
def leftF(n:Nat)(listed:Array Bool):Nat:=(List.range n).countP fun j=> !listed.getD j true
theorem any_free{a:Act}{c:Nat->Value}{Q:Act->World->Prop}{Q':Exit->Act->World->Prop}(hf:Free ops late n)(htr:∀{x y z},R x y->R y z->R x z)(hst:∀j φ v x y,B j=some φ->φ v x->R x y->φ v y)(hs:StepsF P ops R B late w0 n Q a c 0)(hrefl:∀w,R w w)(hlB:∀i,late.contains i=true->B i=none)(hpan:∀c a d v w,Q' (.panic c) (Act.put a d v) w->Q' (.panic c) a w)(hQ:∀a w,Q a w->wpList P ops Q' (ops.toList.drop n) a w):
 ∀(u:Nat) (vs:Nat->Value) (listed:Array Bool) (a':Act) (w':World),leftF n listed=u->InvF ops R B w0 n a c vs listed a' w'->wpAny P .any ops Q' (u+(ops.size-n)) listed a' w'
 |0,vs,listed,a',w',hu,inv=>by
  have hall:∀j,j<n->listed.getD j true=true:=fun j hj=>by
   have:=List.countP_eq_zero.1 hu j (List.mem_range.2 hj);simpa using this
  have hall2:∀j,j<n->listed.getD j false=true:=fun j hj=>by
   have h1:=hall j hj;have h2:j<listed.size:=by rw[inv.head.size];have:=hf.le;omega
   simpa[h2] using h1
  have e1:listed=Array.ofFn fun i:Fin ops.size=>decide (i.val<n):=by
   apply Array.ext (by simp[inv.head.size]);intro j h1 h2;have hj:j<ops.size:=by rw[<-inv.head.size];exact h1
   simp only[Array.getElem_ofFn];by_cases hjn:j<n
   ·have:=hall j hjn
    simpa[h1,hjn] using this
   ·have:=inv.head.tail j (by omega) hj
    simpa[h1,hjn] using this
  have e2:a'=textF ops B a c vs n:=by
   have hd:=(textF_size (ops:=ops) (B:=B) (a:=a) (c:=c) (vs:=vs) n).2;have hz:=(textF_size (ops:=ops) (B:=B) (a:=a) (c:=c) (vs:=vs) n).1
   have ht:a'.tmps=(textF ops B a c vs n).tmps:=by
    apply Array.ext_getElem?;intro d;by_cases hw:∃j o,j<n/\ops[j]? =some o/\o.dst=some d
    ·obtain⟨j,oj,hj,hoj,hdj⟩:=hw
     rcases Nat.lt_or_ge d a.tmps.size with hs|hs
     ·rw[inv.slot j oj d hj hoj (hall2 j hj) hdj hs,textF_slot hf hoj hdj hs n hj (n_)]
     ·rw[Array.getElem?_eq_none (by rw[inv.size];exact hs),Array.getElem?_eq_none (by rw[hz];exact hs)]
    ·rw[inv.other d fun j oj hj hoj _ hdj=>hw ⟨j,oj,hj,hoj,hdj⟩,textF_other n fun j oj hj hoj hdj=>hw ⟨j,oj,hj,hoj,hdj⟩]
   have hdd:=inv.defers.trans hd.symm;cases a';cases hx:textF ops B a c vs n;rw[hx] at ht hdd;simp only at ht hdd;rw[ht,hdd]
  subst e2;have hq:=hQ _ _ (hs.last vs w' inv.world fun j φ hj hφ=>inv.facts j φ hj hφ (hall2 j hj));have hlen:(ops.toList.drop n).length=ops.size-n:=by simp
  have:=wpAny_of_seq (md:= .any) (Q':=Q') (ops.toList.drop n) n listed _ w' (fun j=>by simp[List.getElem?_drop]) (by rw[hlen,e1];exact hf.seq) hq;rw[hlen] at this;simpa using this
 |u+1,vs,listed,a',w',hu,inv=>by
  rw[show u+1+(ops.size-n)=(u+(ops.size-n))+1 by omega]
  have hex:∃j,j<n/\listed.getD j true=false:=by
   have:0<(List.range n).countP fun j=> !listed.getD j true:=by unfold leftF at hu;omega
   obtain⟨j,hj,hp⟩:=List.countP_pos_iff.1 this;exact⟨j,List.mem_range.1 hj,by simpa using hp⟩
  have hsmall:∀d j,j<=d->j<n->listed.getD j true=false->∃i,i<n/\i∈Region.ready .any ops listed:=by
   intro d
   induction d with
   |zero=>
    intro j hjd hj hun;have hj0:j=0:=by omega
    subst hj0;obtain⟨oj,hoj⟩:∃oj,ops[0]? =some oj:=⟨_,Array.getElem?_eq_getElem (by have:=hf.le;omega)⟩
    exact⟨0,hj,mem_ready.2 ⟨hun,oj,hoj,fun e he hb=>by have:=hf.after 0 oj hoj e he hb;omega⟩⟩
   |succ d ih=>
    intro j hjd hj hun;obtain⟨oj,hoj⟩:∃oj,ops[j]? =some oj:=⟨_,Array.getElem?_eq_getElem (by have:=hf.le;omega)⟩
    by_cases hall:∀e∈oj.after,Region.binds .any e=true->listed.getD e.on false=true
    ·exact⟨j,hj,mem_ready.2 ⟨hun,oj,hoj,hall⟩⟩
    ·simp only[Classical.not_forall] at hall
     obtain⟨e,he,hb,hno⟩:=hall;have hlt:=hf.after j oj hoj e he hb;exact ih e.on (by omega) (by omega) (getD_in (by rw[inv.head.size];have:=hf.le;omega) (by simpa using hno))
  obtain⟨j0,hj0,hun0⟩:=hex
  have hset:∀i,i<n->listed.getD i true=false->leftF n (listed.setIfInBounds i true)=u:=fun i hin hun=>by
   have hisl:i<listed.size:=by rw[inv.head.size];have:=hf.le;omega
   have hc:=cnt_set (fun j=> !listed.getD j true) (fun j=> !(listed.setIfInBounds i true).getD j true) i (fun j hj=>by simp only[getD_set_ne true (Ne.symm hj)]) (by simp[hisl]) (by simp only[hun];rfl) n hin;unfold leftF at hu⊢;omega
  by_cases hlt:∃i,late.contains i=true/\B i=none/\i∈Region.ready .any ops listed
  ·obtain⟨i,hli,hBi,hr⟩:=hlt
   obtain⟨hin,hfree,o,ho,hg⟩:=hf.late i hli;have hun:=(mem_ready.1 hr).1;have hp:=fun w=>hs.pure i o (Nat.zero_le _) hin ho hli hBi vs w;obtain⟨e1,_⟩:=same_text hf inv hin ho hr;have hy:Yields P ops o (c i) a':= .inl ⟨by simp[Region.wanted,hg],fun w=>by rw[e1];exact hp w⟩
   refine wpAny_first ho hf.sel (fun c a w=>hpan c a _ _ w) _ listed a' w' (fun j oj hj hji huj hno=>Region.free_spec ho hfree j oj hj hji (by
    have hjs:=(Array.getElem?_eq_some_iff.1 hj).1
    have hw:Region.waitsFor .any ops i j=false:=by
     cases hw:Region.waitsFor .any ops i j with
     |false=>rfl
     |true=>
      obtain⟨oi,hoi,e,he,hb,hon⟩:=Region.waitsFor_spec hw;obtain⟨_,o3,ho3,hall3⟩:=mem_ready.1 hr;have:oi=o3:=Option.some.inj (hoi.symm.trans ho3);subst this;have h4:=hall3 e he hb;rw[hon,getD_both huj] at h4;cases h4
    simp[hjs,hw]) hno) hr hy ?_
   exact any_free hf htr hst hs hrefl hlB hpan hQ u (fun j=>if j=i then c i else vs j) _ _ w' (hset i hin hun) (inv_set hf inv hin ho hr inv.world (fun j φ v hφ hp=>hp) (fun φ hφ=>by rw[hBi] at hφ;cases hφ) fun _=>rfl)
  refine⟨fun h0=> ?_,fun i hr=> ?_⟩
  ·obtain⟨i,_,hi⟩:=hsmall j0 j0 (n_) hj0 hun0
   rw[h0] at hi;cases hi
  ·obtain⟨hun,o,ho,hall⟩:=mem_ready.1 hr
   have hisz:i<ops.size:=(Array.getElem?_eq_some_iff.1 ho).1
   have hin:i<n:=by
    rcases Nat.lt_or_ge i n with h|h
    ·exact h
    ·exfalso
     obtain⟨hw1,hw2⟩:=hf.waits (by omega)
     have hin2:i=n:=by
      rcases Nat.lt_or_ge n i with h2|h2
      ·exfalso
       have h3:=List.all_eq_true.1 hw2 i (List.mem_range.2 hisz);simp only[Bool.or_eq_true,decide_eq_true_eq] at h3;rcases h3 with h3|h3
       ·omega
       ·obtain⟨o',ho',e,he,hb,hon⟩:=Region.waitsFor_spec h3
        have:o'=o:=Option.some.inj (ho'.symm.trans ho);subst this;have h4:=hall e he hb;rw[hon,getD_both (inv.head.tail (i-1) (by omega) (by omega))] at h4;cases h4
      ·omega
     subst hin2;obtain⟨j,hj,hjr⟩:=hsmall j0 j0 (n_) hj0 hun0
     have hjl:late.contains j=true:=by
      cases hc:late.contains j with
      |true=>rfl
      |false=>
       rcases needs_listed inv.head.closed (fun j' hw=>by
        obtain⟨o',ho',e,he,hb,hon⟩:=Region.waitsFor_spec hw;have:o'=o:=Option.some.inj (ho'.symm.trans ho);subst this;rw[<-hon];exact hall e he hb) _ j (hw1 j hj hc) with h4|h4
       ·omega
       ·rw[getD_both (mem_ready.1 hjr).1] at h4
        cases h4
     cases hBj:B j with
     |none=>exact hlt ⟨j,hjl,hBj,hjr⟩
     |some φ=>exact absurd (hlB j hjl) (by simp[hBj])
   have hkn:knownF ops R B w0 i vs w':=⟨inv.world,fun j φ hφ hwt=>by
    obtain⟨oi,hoi,e,he,hb,hon⟩:=Region.waitsFor_spec hwt;have:oi=o:=Option.some.inj (hoi.symm.trans ho);subst this;have h1:=hall e he hb;have h2:=hf.after i oi hoi e he hb;rw[hon] at h1 h2;exact inv.facts j φ (by omega) hφ h1⟩
   have hla:late.contains i=false\/(B i).isSome=true:=by
    cases hc:late.contains i with
    |false=>exact .inl rfl
    |true=>exact absurd ⟨i,hc,hlB i hc,hr⟩ hlt
   have hstep:=hs.step i o (Nat.zero_le _) hin ho hla vs w' hkn;refine wpOp_mono (fun a2 w2 h2=> ?_) (op_of_step hf inv hin ho hr hstep);obtain⟨v,rfl,hR,hB,hv⟩:=h2;refine any_free hf htr hst hs hrefl hlB hpan hQ u (fun j=>if j=i then v else vs j) _ _ w2 (hset i hin hun) (inv_set hf inv hin ho hr (htr inv.world hR) (fun j φ v hφ hp=>hst j φ v _ _ hφ hp hR) hB hv)
theorem wp_region_free{id:Nat}{Q:Exit->Act->World->Prop}{a:Act}{w:World}{l:List Oper}(n:Nat)(late:List Nat)(R:World->World->Prop)(B:Nat->Option (Value->World->Prop))(hm:P.follows .mixedOrders=true)(hB:freeB l.toArray late n=true)(hrefl:∀w,R w w)(hlB:∀i,late.contains i=true->B i=none)(h0:R w {w with drawn:=w.drawn+1})(htr:∀{x y z},R x y->R y z->R x z)(hst:∀j φ v x y,B j=some φ->φ v x->R x y->φ v y)(h:wpFree P l.toArray R B late w n (fun a w=>∀KK:Exit->Act->World->Prop,(∀a w,Q .normal a w->KK .normal a w)->wpList P l.toArray KK (l.drop n) a w) (l.take n) 0 (fun _=>a)):(Code.region id l.toArray true).wp P Q a w:=by
 have hf:=free_of hB;have hln:n<=l.length:=by simpa using hf.le
 obtain⟨c,_,hs⟩:=steps_of (ops:=l.toArray) (n:=n) (a:=a) (l.take n) 0 (fun _=>a) (fun _=>undef) (fun j hj=>by simp at hj;simp[hj]) (by simp;omega) (fun vs=>rfl) h;refine Code.wp_mono (Q:=fun e a w=>e= .normal/\Q e a w) (fun e a w h=>h.2) ?_;refine wp_region_any hm ?_
 have hu:leftF n (Array.replicate l.toArray.size false)=n:=by
  unfold leftF
  have:∀j∈List.range n,(!(Array.replicate l.toArray.size false).getD j true)=true:=fun j hj=>by
   have:=List.mem_range.1 hj;simp[show j<l.length by omega]
  rw[List.countP_eq_length.2 this];simp
 have:=any_free (R:=R) (B:=B) (w0:=w) (c:=c) (Q':=fun e a w=>e= .normal/\Q e a w) hf htr hst hs hrefl hlB (fun c a d v w h=>by cases h.1) (fun a w hq=>by simpa using hq _ fun a w h=>⟨rfl,h⟩) n (fun _=>undef) (Array.replicate l.toArray.size false) a {w with drawn:=w.drawn+1} hu
  ⟨⟨by simp,fun j oj _ hl=>(by rw[getD_replicate_false] at hl;cases hl),fun t _ ht=>getD_in (by simpa using ht) (getD_replicate_false _ _)⟩,h0,fun j φ _ _ hl=>(by rw[getD_replicate_false] at hl;cases hl),rfl,rfl,fun _ _=>rfl,fun j o d _ _ hl=>(by rw[getD_replicate_false] at hl;cases hl)⟩
 rwa [show n+(l.toArray.size-n)=l.toArray.size by simp;omega] at this
theorem wpFree_nil{Q:Act->World->Prop}{k:Nat}{A:(Nat->Value)->Act}(h:∀vs w,R w0 w->(∀j φ,j<n->B j=some φ->φ (vs j) w)->Q (A vs) w):wpFree P ops R B late w0 n Q [] k A:=h
theorem wpFree_pure{Q:Act->World->Prop}{o:Oper}{rest:List Oper}{k:Nat}{A:(Nat->Value)->Act}{v:Value}(hB:B k=none)(hl:late.contains k=false)(h1:∀vs w,knownF ops R B w0 k vs w->∀K:Value->World->Prop,(∀w',R w w'->K v w')->stepF P ops o (A vs) w K)(h2:∀KK:((Nat->Value)->Act)->Prop,(∀A',wpFree P ops R B late w0 n Q rest (k+1) A'->KK A')->KK (fun vs=>(A vs).put o.dst v)):wpFree P ops R B late w0 n Q (o::rest) k A:=by
 unfold wpFree;simp only[hB];exact⟨v,.inl ⟨hl,h1⟩,h2 _ fun _ h=>h⟩
theorem wpFree_fact{Q:Act->World->Prop}{o:Oper}{rest:List Oper}{k:Nat}{A:(Nat->Value)->Act}{φ:Value->World->Prop}(hB:B k=some φ)(h1:∀vs w,knownF ops R B w0 k vs w->∀K:Value->World->Prop,(∀v w',R w w'->φ v w'->K v w')->stepF P ops o (A vs) w K)(h2:∀KK:((Nat->Value)->Act)->Prop,(∀A',wpFree P ops R B late w0 n Q rest (k+1) A'->KK A')->KK (fun vs=>(A vs).put o.dst (vs k))):wpFree P ops R B late w0 n Q (o::rest) k A:=by
 unfold wpFree;simp only[hB];exact⟨h1,h2 _ fun _ h=>h⟩
theorem Calls.free{f:FuncId}{args:Array Value}{w:World}{v:Value}{K:Value->World->Prop}(hK:∀w',R w w'->K v w')(h:Calls P f args w fun e w'=>e= .returned v/\R w w'):Calls P f args w fun e w'=>∃u,e= .returned u/\K u w':=
 h.mono fun _ _ ⟨he,hr⟩=>⟨v,he,hK _ hr⟩
end
def Stays(x y:World):Prop:=Below x.heap.size x y
theorem Stays.trans{x y z:World}(h:Stays x y)(k:Stays y z):Stays x z:=Go.RowKit.Below.trans h (Go.RowKit.Below.mono k (Go.RowKit.Below.size h))
theorem Stays.draw(w:World):Stays w {w with drawn:=w.drawn+1}:=⟨rfl,rfl,rfl,n_,fun _ _=>rfl⟩
theorem Stays.refl(w:World):Stays w w:=Below.refl _ _
theorem Stays.alloc(w:World)(o:Obj):Stays w (w.alloc o):=(Below.refl _ _).alloc (n_) _
theorem Blk.stays{x y:World}{g:Nat}{t:TypeId}{cs:Array Value}(h:Blk x g t cs)(k:Stays x y):Blk y g t cs:=h.below k h.lt
theorem Blk.there{w:World}{g:Nat}{t:TypeId}{cs:Array Value}(h:Blk w g t cs)(n:Nat)(hn:n<=cs.size):w.there g 0 n:=fun j hj=>by
 rw[Nat.zero_add];exact⟨by rw[h.cell,Array.getElem?_eq_getElem (by omega)];rfl,h.frozen j⟩
attribute [go_sem] stepF uponF
end Go.Proofs.YtnocnbklhikmnaaGreatDoor
namespace Go.Proofs.YtnocnbklhikmnaaGreatDoor
open Go Go.RowKit
def upd(L:Nat->Bool)(i:Nat):Nat->Bool:=fun j=>if j=i then true else L j
def updv(vs:Nat->Value)(i:Nat)(v:Value):Nat->Value:=fun j=>if j=i then v else vs j
def Rdy(ops:Array Oper)(k:Nat)(L:Nat->Bool):Prop:=∀j,Region.waitsFor .any ops k j=true->L j=true
def BB(F:List Nat):Nat->Option (Value->World->Prop):=fun k=>if F.contains k=true then some (fun _ _=>True) else none
section
variable (P:Program) (ops:Array Oper) (I:(Nat->Bool)->(Nat->Value)->World->Prop) (F:List Nat)
def wpGen(n:Nat)(Q:Act->World->Prop):List Oper->Nat->((Nat->Value)->Act)->Prop
 |[],_,A=>∀vs w,I (fun j=>decide (j<n)) vs w->Q (A vs) w
 |o::rest,k,A=>if F.contains k=true
  then(∀L vs w,I L vs w->Rdy ops k L->L k=false->∀K:Value->World->Prop,(∀v w',I (upd L k) (updv vs k v) w'->K v w')->stepF P ops o (A vs) w K)/\wpGen n Q rest (k+1) (fun vs=>(A vs).put o.dst (vs k))
  else∃v,(∀L vs w,I L vs w->Rdy ops k L->L k=false->∀K:Value->World->Prop,(∀w',I (upd L k) (updv vs k v) w'->K v w')->stepF P ops o (A vs) w K)/\wpGen n Q rest (k+1) (fun vs=>(A vs).put o.dst v)
end
section
variable {P:Program} {ops:Array Oper} {I:(Nat->Bool)->(Nat->Value)->World->Prop} {F:List Nat} {n:Nat}
theorem BB_some{k:Nat}(h:F.contains k=true):BB F k=some (fun _ _=>True):=by unfold BB;rw[if_pos h]
theorem BB_none{k:Nat}(h:F.contains k=false):BB F k=none:=by unfold BB;rw[if_neg (by rw[h];simp)]
structure StepsG(P:Program)(ops:Array Oper)(I:(Nat->Bool)->(Nat->Value)->World->Prop)(F:List Nat)(n:Nat)(Q:Act->World->Prop)(a:Act)(c:Nat->Value)(k:Nat):Prop where
 step:∀i o,k<=i->i<n->ops[i]? =some o->∀L vs w,I L vs w->Rdy ops i L->L i=false->stepF P ops o (textF ops (BB F) a c vs i) w fun v w'=>I (upd L i) (updv vs i v) w'/\(F.contains i=false->v=c i)
 last:∀vs w,I (fun j=>decide (j<n)) vs w->Q (textF ops (BB F) a c vs n) w
theorem steps_gen{Q:Act->World->Prop}{a:Act}:∀(l:List Oper) (k:Nat) (A:(Nat->Value)->Act) (c:Nat->Value),(∀j,j<l.length->l[j]? =ops[k+j]?)->k+l.length=n->(∀vs,A vs=textF ops (BB F) a c vs k)->
 wpGen P ops I F n Q l k A->∃c',(∀j,j<k->c' j=c j)/\StepsG P ops I F n Q a c' k
 |[],k,A,c,_,hk,hA,h=>⟨c,fun _ _=>rfl,fun i o h1 h2=>by simp at hk;omega,fun vs w hi=>by
   have:k=n:=by simpa using hk
   subst this;rw[<-hA];exact h vs w hi⟩
 |o::l,k,A,c,hl,hk,hA,h=>by
  have h0:ops[k]? =some o:=by simpa using(hl 0 (by simp)).symm
  have hl':∀j,j<l.length->l[j]? =ops[k+1+j]? :=fun j hj=>by have:=hl (j+1) (by simp;omega);simpa[Nat.add_assoc,Nat.add_comm 1 j] using this
  have hk':k+1+l.length=n:=by simp at hk;omega
  unfold wpGen at h;cases hF:F.contains k with
  |false=>
   simp only[hF,Bool.false_eq_true,if_false] at h;obtain⟨v,h1,h2⟩:=h
   let c1:Nat->Value:=fun j=>if j=k then v else c j
   have hA1:∀vs,(A vs).put o.dst v=textF ops (BB F) a c1 vs (k+1):=fun vs=>by
    unfold textF;rw[hA,textF_congr (c:=c1) (c':=c) k (fun j hj=>by simp[c1];omega)];simp[h0,valF,BB_none hF,c1]
   obtain⟨c2,hc2,hs⟩:=steps_gen l (k+1) _ c1 hl' hk' hA1 h2;refine⟨c2,fun j hj=>by rw[hc2 j (by omega)];simp[c1];omega,fun i oi hi hin hoi L vs w hI hR hL=> ?_,hs.last⟩;by_cases hik:i=k
   ·subst hik
    have:oi=o:=Option.some.inj (hoi.symm.trans h0);subst this;rw[textF_congr (c:=c2) (c':=c) i (fun j hj=>by rw[hc2 j (by omega)];simp[c1];omega),<-hA];exact h1 L vs w hI hR hL _ fun w' hw=>⟨hw,fun _=>by rw[hc2 i (by omega)];simp[c1]⟩
   ·exact hs.step i oi (by omega) hin hoi L vs w hI hR hL
  |true=>
   simp only[hF,if_true] at h;obtain⟨h1,h2⟩:=h
   have hA1:∀vs,(A vs).put o.dst (vs k)=textF ops (BB F) a c vs (k+1):=fun vs=>by
    unfold textF;rw[hA];simp[h0,valF,BB_some hF]
   obtain⟨c2,hc2,hs⟩:=steps_gen l (k+1) _ c hl' hk' hA1 h2;refine⟨c2,fun j hj=>hc2 j (by omega),fun i oi hi hin hoi L vs w hI hR hL=> ?_,hs.last⟩;by_cases hik:i=k
   ·subst hik
    have:oi=o:=Option.some.inj (hoi.symm.trans h0);subst this;rw[textF_congr (c:=c2) (c':=c) i (fun j hj=>hc2 j (by omega)),<-hA];exact h1 L vs w hI hR hL _ fun v w' hw=>⟨hw,fun hn=>by rw[hF] at hn;cases hn⟩
   ·exact hs.step i oi (by omega) hin hoi L vs w hI hR hL
theorem any_gen{a:Act}{c:Nat->Value}{w0:World}{Q:Act->World->Prop}{Q':Exit->Act->World->Prop}(hf:Free ops [] n)(hs:StepsG P ops I F n Q a c 0)(hQ:∀a w,Q a w->wpList P ops Q' (ops.toList.drop n) a w):
 ∀(u:Nat) (vs:Nat->Value) (listed:Array Bool) (a':Act) (w':World),leftF n listed=u->InvF ops (fun _ _=>True) (BB F) w0 n a c vs listed a' w'->I (fun j=>listed.getD j false) vs w'->wpAny P .any ops Q' (u+(ops.size-n)) listed a' w'
 |0,vs,listed,a',w',hu,inv,hI=>by
  have hall:∀j,j<n->listed.getD j true=true:=fun j hj=>by
   have:=List.countP_eq_zero.1 hu j (List.mem_range.2 hj);simpa using this
  have hall2:∀j,j<n->listed.getD j false=true:=fun j hj=>by
   have h1:=hall j hj;have h2:j<listed.size:=by rw[inv.head.size];have:=hf.le;omega
   simpa[h2] using h1
  have e1:listed=Array.ofFn fun i:Fin ops.size=>decide (i.val<n):=by
   apply Array.ext (by simp[inv.head.size]);intro j h1 h2;have hj:j<ops.size:=by rw[<-inv.head.size];exact h1
   simp only[Array.getElem_ofFn];by_cases hjn:j<n
   ·have:=hall j hjn
    simpa[h1,hjn] using this
   ·have:=inv.head.tail j (by omega) hj
    simpa[h1,hjn] using this
  have e2:a'=textF ops (BB F) a c vs n:=by
   have hd:=(textF_size (ops:=ops) (B:=BB F) (a:=a) (c:=c) (vs:=vs) n).2;have hz:=(textF_size (ops:=ops) (B:=BB F) (a:=a) (c:=c) (vs:=vs) n).1
   have ht:a'.tmps=(textF ops (BB F) a c vs n).tmps:=by
    apply Array.ext_getElem?;intro d;by_cases hw:∃j o,j<n/\ops[j]? =some o/\o.dst=some d
    ·obtain⟨j,oj,hj,hoj,hdj⟩:=hw
     rcases Nat.lt_or_ge d a.tmps.size with hs|hs
     ·rw[inv.slot j oj d hj hoj (hall2 j hj) hdj hs,textF_slot hf hoj hdj hs n hj (n_)]
     ·rw[Array.getElem?_eq_none (by rw[inv.size];exact hs),Array.getElem?_eq_none (by rw[hz];exact hs)]
    ·rw[inv.other d fun j oj hj hoj _ hdj=>hw ⟨j,oj,hj,hoj,hdj⟩,textF_other n fun j oj hj hoj hdj=>hw ⟨j,oj,hj,hoj,hdj⟩]
   have hdd:=inv.defers.trans hd.symm;cases a';cases hx:textF ops (BB F) a c vs n;rw[hx] at ht hdd;simp only at ht hdd;rw[ht,hdd]
  subst e2
  have hLe:(fun j=>listed.getD j false)=fun j=>decide (j<n):=by
   funext j;rcases Nat.lt_or_ge j n with hj|hj
   ·rw[hall2 j hj];simp[hj]
   ·rcases Nat.lt_or_ge j listed.size with h1|h1
    ·have:=inv.head.tail j hj (by rw[<-inv.head.size];exact h1)
     rw[getD_both this];simp;omega
    ·simp[Array.getD_eq_getD_getElem?,Array.getElem?_eq_none h1]
     omega
  rw[hLe] at hI;have hq:=hQ _ _ (hs.last vs w' hI);have hlen:(ops.toList.drop n).length=ops.size-n:=by simp
  have:=wpAny_of_seq (md:= .any) (Q':=Q') (ops.toList.drop n) n listed _ w' (fun j=>by simp[List.getElem?_drop]) (by rw[hlen,e1];exact hf.seq) hq;rw[hlen] at this;simpa using this
 |u+1,vs,listed,a',w',hu,inv,hI=>by
  rw[show u+1+(ops.size-n)=(u+(ops.size-n))+1 by omega]
  have hex:∃j,j<n/\listed.getD j true=false:=by
   have:0<(List.range n).countP fun j=> !listed.getD j true:=by unfold leftF at hu;omega
   obtain⟨j,hj,hp⟩:=List.countP_pos_iff.1 this;exact⟨j,List.mem_range.1 hj,by simpa using hp⟩
  have hsmall:∀d j,j<=d->j<n->listed.getD j true=false->∃i,i<n/\i∈Region.ready .any ops listed:=by
   intro d
   induction d with
   |zero=>
    intro j hjd hj hun;have hj0:j=0:=by omega
    subst hj0;obtain⟨oj,hoj⟩:∃oj,ops[0]? =some oj:=⟨_,Array.getElem?_eq_getElem (by have:=hf.le;omega)⟩
    exact⟨0,hj,mem_ready.2 ⟨hun,oj,hoj,fun e he hb=>by have:=hf.after 0 oj hoj e he hb;omega⟩⟩
   |succ d ih=>
    intro j hjd hj hun;obtain⟨oj,hoj⟩:∃oj,ops[j]? =some oj:=⟨_,Array.getElem?_eq_getElem (by have:=hf.le;omega)⟩
    by_cases hall:∀e∈oj.after,Region.binds .any e=true->listed.getD e.on false=true
    ·exact⟨j,hj,mem_ready.2 ⟨hun,oj,hoj,hall⟩⟩
    ·simp only[Classical.not_forall] at hall
     obtain⟨e,he,hb,hno⟩:=hall;have hlt:=hf.after j oj hoj e he hb;exact ih e.on (by omega) (by omega) (getD_in (by rw[inv.head.size];have:=hf.le;omega) (by simpa using hno))
  obtain⟨j0,hj0,hun0⟩:=hex
  have hset:∀i,i<n->listed.getD i true=false->leftF n (listed.setIfInBounds i true)=u:=fun i hin hun=>by
   have hisl:i<listed.size:=by rw[inv.head.size];have:=hf.le;omega
   have hc:=cnt_set (fun j=> !listed.getD j true) (fun j=> !(listed.setIfInBounds i true).getD j true) i (fun j hj=>by simp only[getD_set_ne true (Ne.symm hj)]) (by simp[hisl]) (by simp only[hun];rfl) n hin;unfold leftF at hu⊢;omega
  refine⟨fun h0=> ?_,fun i hr=> ?_⟩
  ·obtain⟨i,_,hi⟩:=hsmall j0 j0 (n_) hj0 hun0
   rw[h0] at hi;cases hi
  ·obtain⟨hun,o,ho,hall⟩:=mem_ready.1 hr
   have hisz:i<ops.size:=(Array.getElem?_eq_some_iff.1 ho).1
   have hin:i<n:=by
    rcases Nat.lt_or_ge i n with h|h
    ·exact h
    ·exfalso
     obtain⟨hw1,hw2⟩:=hf.waits (by omega)
     have hin2:i=n:=by
      rcases Nat.lt_or_ge n i with h2|h2
      ·exfalso
       have h3:=List.all_eq_true.1 hw2 i (List.mem_range.2 hisz);simp only[Bool.or_eq_true,decide_eq_true_eq] at h3;rcases h3 with h3|h3
       ·omega
       ·obtain⟨o',ho',e,he,hb,hon⟩:=Region.waitsFor_spec h3
        have:o'=o:=Option.some.inj (ho'.symm.trans ho);subst this;have h4:=hall e he hb;rw[hon,getD_both (inv.head.tail (i-1) (by omega) (by omega))] at h4;cases h4
      ·omega
     subst hin2;obtain⟨j,hj,hjr⟩:=hsmall j0 j0 (n_) hj0 hun0
     have hjl:([]:List Nat).contains j=true:=by
      cases hc:([]:List Nat).contains j with
      |true=>rfl
      |false=>
       rcases needs_listed inv.head.closed (fun j' hw=>by
        obtain⟨o',ho',e,he,hb,hon⟩:=Region.waitsFor_spec hw;have:o'=o:=Option.some.inj (ho'.symm.trans ho);subst this;rw[<-hon];exact hall e he hb) _ j (hw1 j hj hc) with h4|h4
       ·omega
       ·rw[getD_both (mem_ready.1 hjr).1] at h4
        cases h4
     simp at hjl
   have hkn:Rdy ops i (fun j=>listed.getD j false):=fun j hwt=>by
    obtain⟨oi,hoi,e,he,hb,hon⟩:=Region.waitsFor_spec hwt;have:oi=o:=Option.some.inj (hoi.symm.trans ho);subst this;have h1:=hall e he hb;rw[hon] at h1;exact h1
   have hstep:=hs.step i o (Nat.zero_le _) hin ho _ vs w' hI hkn (getD_both hun);refine wpOp_mono (fun a2 w2 h2=> ?_) (op_of_step hf inv hin ho hr hstep);obtain⟨v,rfl,hI2,hv⟩:=h2
   refine any_gen hf hs hQ u (fun j=>if j=i then v else vs j) _ _ w2 (hset i hin hun) (inv_set hf inv hin ho hr trivial (fun j φ v hφ hp=>by
    unfold BB at hφ;split at hφ
    ·cases hφ;trivial
    ·cases hφ) (fun φ hφ=>by
    unfold BB at hφ;split at hφ
    ·cases hφ;trivial
    ·cases hφ) (fun hB=>hv (by
    cases hc:F.contains i with
    |false=>rfl
    |true=>rw[BB_some hc] at hB;cases hB))) ?_
   have e1:(fun j=>(listed.setIfInBounds i true).getD j false)=upd (fun j=>listed.getD j false) i:=by
    funext j;unfold upd;by_cases hji:j=i
    ·subst hji
     have hsz:j<listed.size:=by rw[inv.head.size];exact(Array.getElem?_eq_some_iff.1 ho).1
     simp[hsz]
    ·rw[if_neg hji,getD_set_ne false (Ne.symm hji)]
   rw[e1];exact hI2
theorem wp_region_gen{id:Nat}{Q:Exit->Act->World->Prop}{a:Act}{w:World}{l:List Oper}(n:Nat)(F:List Nat)(I:(Nat->Bool)->(Nat->Value)->World->Prop)(hm:P.follows .mixedOrders=true)(hB:freeB l.toArray [] n=true)(h0:I (fun _=>false) (fun _=>undef) {w with drawn:=w.drawn+1})(h:wpGen P l.toArray I F n (fun a w=>∀KK:Exit->Act->World->Prop,(∀a w,Q .normal a w->KK .normal a w)->wpList P l.toArray KK (l.drop n) a w) (l.take n) 0 (fun _=>a)):(Code.region id l.toArray true).wp P Q a w:=by
 have hf:=free_of hB;have hln:n<=l.length:=by simpa using hf.le
 obtain⟨c,_,hs⟩:=steps_gen (ops:=l.toArray) (n:=n) (a:=a) (l.take n) 0 (fun _=>a) (fun _=>undef) (fun j hj=>by simp at hj;simp[hj]) (by simp;omega) (fun vs=>rfl) h;refine Code.wp_mono (Q:=fun e a w=>e= .normal/\Q e a w) (fun e a w h=>h.2) ?_;refine wp_region_any hm ?_
 have hu:leftF n (Array.replicate l.toArray.size false)=n:=by
  unfold leftF
  have:∀j∈List.range n,(!(Array.replicate l.toArray.size false).getD j true)=true:=fun j hj=>by
   have:=List.mem_range.1 hj;simp[show j<l.length by omega]
  rw[List.countP_eq_length.2 this];simp
 have:=any_gen (F:=F) (I:=I) (w0:=w) (c:=c) (Q':=fun e a w=>e= .normal/\Q e a w) hf hs (fun a w hq=>by simpa using hq _ fun a w h=>⟨rfl,h⟩) n (fun _=>undef) (Array.replicate l.toArray.size false) a {w with drawn:=w.drawn+1} hu
  ⟨⟨by simp,fun j oj _ hl=>(by rw[getD_replicate_false] at hl;cases hl),fun t _ ht=>getD_in (by simpa using ht) (getD_replicate_false _ _)⟩,trivial,fun j φ _ _ hl=>(by rw[getD_replicate_false] at hl;cases hl),rfl,rfl,fun _ _=>rfl,fun j o d _ _ hl=>(by rw[getD_replicate_false] at hl;cases hl)⟩ (by
  have e:(fun j=>(Array.replicate l.toArray.size false).getD j false)=fun _=>false:=by
   funext j;exact getD_replicate_false _ _
  rw[e];exact h0)
 rwa [show n+(l.toArray.size-n)=l.toArray.size by simp;omega] at this
theorem wpGen_nil{Q:Act->World->Prop}{k:Nat}{A:(Nat->Value)->Act}(h:∀vs w,I (fun j=>decide (j<n)) vs w->Q (A vs) w):wpGen P ops I F n Q [] k A:=h
theorem wpGen_pure{Q:Act->World->Prop}{o:Oper}{rest:List Oper}{k:Nat}{A:(Nat->Value)->Act}{v:Value}(hF:F.contains k=false)(h1:∀L vs w,I L vs w->Rdy ops k L->L k=false->∀K:Value->World->Prop,(∀w',I (upd L k) (updv vs k v) w'->K v w')->stepF P ops o (A vs) w K)(h2:∀KK:((Nat->Value)->Act)->Prop,(∀A',wpGen P ops I F n Q rest (k+1) A'->KK A')->KK (fun vs=>(A vs).put o.dst v)):wpGen P ops I F n Q (o::rest) k A:=by
 unfold wpGen;rw[if_neg (by rw[hF];simp)];exact⟨v,h1,h2 _ fun _ h=>h⟩
theorem wpGen_fact{Q:Act->World->Prop}{o:Oper}{rest:List Oper}{k:Nat}{A:(Nat->Value)->Act}(hF:F.contains k=true)(h1:∀L vs w,I L vs w->Rdy ops k L->L k=false->∀K:Value->World->Prop,(∀v w',I (upd L k) (updv vs k v) w'->K v w')->stepF P ops o (A vs) w K)(h2:∀KK:((Nat->Value)->Act)->Prop,(∀A',wpGen P ops I F n Q rest (k+1) A'->KK A')->KK (fun vs=>(A vs).put o.dst (vs k))):wpGen P ops I F n Q (o::rest) k A:=by
 unfold wpGen;rw[if_pos hF];exact⟨h1,h2 _ fun _ h=>h⟩
end
end Go.Proofs.YtnocnbklhikmnaaGreatDoor
namespace Go.Proofs.YtnocnbklhikmnaaGreatDoor
open Go Go.RowKit
theorem updN{L:Nat->Bool}{i j:Nat}(h:j≠i):upd L i j=L j:=by simp[upd,h]
theorem updS{L:Nat->Bool}{i:Nat}:upd L i i=true:=by simp[upd]
def Closed(ops:Array Oper)(L:Nat->Bool):Prop:=∀i j,Region.waitsFor .any ops i j=true->L i=true->L j=true
theorem Closed.upd{ops:Array Oper}{L:Nat->Bool}{k:Nat}(h:Closed ops L)(hR:Rdy ops k L):Closed ops (upd L k):=by
 intro i j hw hi;unfold Go.Proofs.YtnocnbklhikmnaaGreatDoor.upd at hi⊢;by_cases hj:j=k
 ·rw[if_pos hj]
 ·rw[if_neg hj]
  by_cases hik:i=k
  ·subst hik
   exact hR j hw
  ·rw[if_neg hik] at hi
   exact h i j hw hi
theorem Closed.off{ops:Array Oper}{L:Nat->Bool}(h:Closed ops L){i j:Nat}(hj:L j=false)(hw:Region.waitsFor .any ops i j=true):L i=false:=by
 cases hi:L i with
 |false=>rfl
 |true=>rw[h i j hw hi] at hj;cases hj
def withC(ops:Array Oper)(I:(Nat->Bool)->(Nat->Value)->World->Prop):(Nat->Bool)->(Nat->Value)->World->Prop:=fun L vs w=>Closed ops L/\I L vs w
section
variable {P:Program} {ops:Array Oper} {I:(Nat->Bool)->(Nat->Value)->World->Prop} {F:List Nat} {n:Nat}
theorem wp_region_genC{id:Nat}{Q:Exit->Act->World->Prop}{a:Act}{w:World}{l:List Oper}(n:Nat)(F:List Nat)(I:(Nat->Bool)->(Nat->Value)->World->Prop)(hm:P.follows .mixedOrders=true)(hB:freeB l.toArray [] n=true)(h0:I (fun _=>false) (fun _=>undef) {w with drawn:=w.drawn+1})(h:wpGen P l.toArray (withC l.toArray I) F n (fun a w=>∀KK:Exit->Act->World->Prop,(∀a w,Q .normal a w->KK .normal a w)->wpList P l.toArray KK (l.drop n) a w) (l.take n) 0 (fun _=>a)):(Code.region id l.toArray true).wp P Q a w:=
 wp_region_gen n F (withC l.toArray I) hm hB ⟨fun i j _ hi=>absurd hi (by simp),h0⟩ h
theorem wpGenC_nil{Q:Act->World->Prop}{k:Nat}{A:(Nat->Value)->Act}(h:∀vs w,I (fun j=>decide (j<n)) vs w->Q (A vs) w):wpGen P ops (withC ops I) F n Q [] k A:=fun vs w hI=>h vs w hI.2
theorem wpGenC_pure{Q:Act->World->Prop}{o:Oper}{rest:List Oper}{k:Nat}{A:(Nat->Value)->Act}{v:Value}(hF:F.contains k=false)(h1:∀L vs w,I L vs w->Closed ops L->Rdy ops k L->L k=false->∀K:Value->World->Prop,(∀w',I (upd L k) (updv vs k v) w'->K v w')->stepF P ops o (A vs) w K)(h2:∀KK:((Nat->Value)->Act)->Prop,(∀A',wpGen P ops (withC ops I) F n Q rest (k+1) A'->KK A')->KK (fun vs=>(A vs).put o.dst v)):wpGen P ops (withC ops I) F n Q (o::rest) k A:=
 wpGen_pure hF (fun L vs w hI hR hL K hK=>h1 L vs w hI.2 hI.1 hR hL K fun w' hI'=>hK w' ⟨hI.1.upd hR,hI'⟩) h2
end
end Go.Proofs.YtnocnbklhikmnaaGreatDoor
