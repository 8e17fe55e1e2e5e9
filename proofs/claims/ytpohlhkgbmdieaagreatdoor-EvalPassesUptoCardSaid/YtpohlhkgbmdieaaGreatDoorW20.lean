/- Part 20 of the proof. -/
import Derived.Test.YtpohlhkgbmdieaaGreatDoorW19
import Derived.Lib.AppendStr
import Derived.WalkMore
set_option linter.unusedVariables false
set_option maxRecDepth 1000000
set_option maxHeartbeats 16000000
namespace Go.Proofs.YtpohlhkgbmdieaaGreatDoor
variable{B:Nat}{a:List M.Val}{ab b:Nat}{iy:ByteArray}{c ga:Nat}{k:Int}{l:List UInt8}{n:Nat}{s:ByteArray}{v:Value}{w w':World}
section
open Go Go.RowKit Go.BigFrame Go.Maps Go.WideMaps
theorem D3:Enters Tryz.prog 271:=fun _ _=>rfl
theorem LU(tn:ByteArray)(tv:Value)(nb:Nat)(name:ByteArray)(w:World)(hb:ar w nb 9 #[.string name]):
 Calls Tryz.prog 271 #[.agg #[.string tn,tv],.pointer (some ⟨nb,0,none⟩)] w fun e w'=>e= .returned (.bool (M.bJ tn name))/\Below w.heap.size w w':=by
 have B1:=q_ ((Below.refl _ w).alloc (n_) (.cells #[.string tn,tv] 266));have z:=(hb.alloc (.cells #[.string tn,tv] 266)).cell;have z2:=(ar.new w 266 #[.string tn,tv]).cell;have he:=fy tn name;generalize M.bJ tn name=q at*;clear hb;go_enter Tryz.func271,Tryz.ntmps271;go_wp2;go_ret;exact⟨rfl,B1.o⟩
theorem LV{ts:List M.Table}{name:ByteArray}(h:M.fo (aG ts) name=true):∃i:Nat,i<ts.length/\bT ts.length (fun k=>M.bJ ((ts[k]?).elim ByteArray.empty M.Table.name) name)=(i:Int)/\ts[i]? =some (M.bQ ts name):=by
 cases hf:ts.find? (fun t=>M.bJ t.name name) with
 |none=>
  rw[List.find?_eq_none] at hf;simp only[M.fo,aG,List.any_eq_true,List.mem_map] at h;obtain⟨_,⟨t,ht,rfl⟩,h⟩:=h;refine absurd ?_ (hf t ht);rw[iV] at h⊢;exact h.symm
 |some t=>
  obtain⟨h1,i,hi,h2,h3⟩:=List.find?_eq_some_iff_getElem.1 hf;refine⟨i,hi,cP hi ?_ fun j hj=> ?_,?_⟩
  ·rw[e_ hi,h2]
   exact h1
  ·rw[e_ (by omega)]
   have:=h3 j hj;simpa using this
  ·unfold M.bQ
   rw[hf,e_ hi,h2];rfl
theorem Uh{fn:Func}{p:Tmp}(hf:fn.results=#[.cell p 266]){W:World}{tmps:Array Value}{g:Nat}{cs:Array Value}(hW:ar W g 266 cs)(hl:cs.size=2)(h2:tmps.getD p undef= .pointer (some ⟨g,0,none⟩)):
 (results fn tmps).run Tryz.prog W= .ok (.agg cs) W:=by
 rw[jE hf,h2];have hi:(Tryz.prog.info? 266).map (·.size)=some cs.size:=by rw[hl];kernel_rfl
 have h:=run_loadVar_row (P:=Tryz.prog) W g 266 266 cs (0,0) _ hW Tryz.underlying266 rfl hi;simp only[asAddr,Sem.run_pure,Result.andThen_ok,h]
theorem PS(g:Nat)(S:Nat->Prop)(ts:List M.Table)(p:PV)(F u:Nat)(name:ByteArray)(w:World)(a:Addr)(n i:Nat)(nm:ByteArray)(tv:Value)(hfi:bT ts.length (fun k=>M.bJ ((ts[k]?).elim ByteArray.empty M.Table.name) name)=(i:Int))(hi:i<ts.length)(htv:p.tv= .slice (some a) ts.length n)(aI:bX (some a) ts.length n)(hl:bn cV w S (some a) ts.length ts)(hS:∀b,S b->b<w.heap.size)(yx:a.block<w.heap.size)(hc1:w.cell? (a.add (i*2))=some (.string nm))(hc2:w.cell? ⟨(a.add (i*2)).block,(a.add (i*2)).off+1,none⟩=some tv)(je:tv.oneCell'=true)(hk:ar w g 64 #[.int .u8 (p.d.f.toNat:Int),.int .u8 (p.d.c.toNat:Int),.int .u8 (p.d.r.toNat:Int),.int .u8 (p.d.e.toNat:Int),.int .u8 (p.d.s.toNat:Int),p.v,p.tv,.string p.now,.int .i64 (F:Nat),.int .i64 (u:Nat),p.rv,.bool p.stop,p.sv]):
 Calls Tryz.prog 234 #[.pointer (some ⟨g,0,none⟩),.string name] w fun e w'=>e= .returned (.agg #[.string nm,tv])/\Below w.heap.size w w':=by
 have Tu:∀(fn:Fn) (first cap:Array Value) (w:World),(Instr.makeFunc fn first cap).run Tryz.prog w= .ok (.func fn first cap) w:=fun _ _ _ _=>rfl;rw[htv] at hk;have HB:=q_ hk;have N1:=q_ ((ar.new w 9 #[.string name]).alloc (.cells #[.string ⟨#[]⟩,.slice none 0 0] 266));have s0:(w.alloc (.cells #[.string name] 9)).heap.size=w.heap.size+1:=by simp
 have K1:=q_ (ar.new (w.alloc (.cells #[.string name] 9)) 266 #[.string ⟨#[]⟩,.slice none 0 0]);rw[s0] at K1;have B1:=q_ (((Below.refl _ w).alloc (n_) (.cells #[.string name] 9)).alloc (by omega) (.cells #[.string ⟨#[]⟩,.slice none 0 0] 266))
 have HK:=q_ (fun(W:World) (h:Below w.heap.size w W) (hb:ar W w.heap.size 9 #[.string name])=>uS cV rfl (fun k=>M.bJ ((ts[k]?).elim ByteArray.empty M.Table.name) name) (fun _ W'=>Below W.heap.size W W') 271 #[.pointer (some ⟨w.heap.size,0,none⟩)] (some a) ts.length n ts S W D3 aI (Below.refl _ _) (fun k W' hW=>(hl.below h hS).below hW (fun b hb=>l_ (hS b hb) h.size)) (fun k W' x u v hk hW hx2 hr=>by
  obtain⟨A3,c3,e3,hn3,-,-⟩:=cV.inv hr;injection e3 with e3 e4;injection e4 with e4;subst e3 e4;refine(LU x.name _ w.heap.size name W' (hb.below hW hb.lt)).mono ?_
  rintro e w' ⟨rfl,h⟩;refine⟨?_,hW.trans (h.mono hW.size)⟩;rw[hx2];rfl))
 rw[hfi] at HK;have z:=(HB.o.below B1.o HB.o.lt).cell;have C1:=q_ (fun(W:World) (h:Below w.heap.size w W)=>(h.cell (p:=a.add (i*2)) (by rw[az];exact yx)).trans hc1);have C2:=q_ (fun(W:World) (h:Below w.heap.size w W)=>(h.cell (p:=⟨(a.add (i*2)).block,(a.add (i*2)).off+1,none⟩) (by show(a.add (i*2)).block<_;rw[az];exact yx)).trans hc2);have hm:=aI.le;clear hk hl hfi aI s0 hc1 hc2;go_enter Tryz.func234,Tryz.ntmps234;go_wp2_with fail;generalize (w.alloc (.cells #[.string name] 9)).alloc (.cells #[.string ⟨#[]⟩,.slice none 0 0] 266)=w1 at N1 K1 B1 z⊢;refine(HK.o w1 B1.o N1.o).mono ?_
 rintro e w2 ⟨rfl,-,hb⟩;have B2:=q_ (B1.o.trans (hb.mono B1.o.size));have K2:=q_ (K1.o.below hb K1.o.lt);clear hb z;have z:=(HB.o.below B2.o HB.o.lt).cell;have hc1:=C1.o _ B2.o;have hc2:=C2.o _ B2.o;go_wp2_with (refine ah (cs':=#[.string nm,tv]) rfl 266 (.tmp 4) (.tmp 18) rfl (w.heap.size+1) (by rfl) (by rfl) K2.o rfl (by kernel_rfl) (by simp[Value.oneCell'];exact je) ?_;intro w3 k3 g3;have K3:=q_ k3;have G3:=q_ g3;clear k3 g3)
 (try simp only[Exit.inBlock,Exit.then]);have b3:=ai B2.o G3.o (by omega);exact bodyPost_ret (Uh rfl K3.o rfl rfl) rfl ⟨rfl,b3⟩
theorem sj(g:Nat)(Mu S:Nat->Prop)(c:M.Cx)(st:M.St)(p:PV)(bs:List Nat)(F u:Nat)(name:ByteArray)(w:World)(hn:M.fo (aG c.tables) name=true)(hk:ar w g 64 #[.int .u8 (p.d.f.toNat:Int),.int .u8 (p.d.c.toNat:Int),.int .u8 (p.d.r.toNat:Int),.int .u8 (p.d.e.toNat:Int),.int .u8 (p.d.s.toNat:Int),p.v,p.tv,.string p.now,.int .i64 (F:Nat),.int .i64 (u:Nat),p.rv,.bool p.stop,p.sv])(hp:b9 w g Mu S c st p bs):
 ∃A n,bX A (M.bQ c.tables name).entries.length n/\bn ld w S A (M.bQ c.tables name).entries.length (M.bQ c.tables name).entries/\∀W,Below w.heap.size w W->
 Calls Tryz.prog 234 #[.pointer (some ⟨g,0,none⟩),.string name] W fun e w'=>e= .returned (.agg #[.string (M.bQ c.tables name).name,.slice A (M.bQ c.tables name).entries.length n])/\Below W.heap.size W w':=by
 obtain⟨i,hi,hfi,D5⟩:=LV hn;obtain⟨A,n,htv,aI,hl⟩:=hp.tabs;have hS:∀b,S b->b<w.heap.size:=fun b h=>(hp.far b h).1;obtain⟨a,x,u1,v1,rfl,yx,hx,hr,hc1,hc2⟩:=hl.in2 rfl hi;rw[D5] at hx;obtain rfl:=i_ hx;obtain⟨A3,c3,e3,hn3,ly,KJ⟩:=cV.inv hr;injection e3 with e3 e4;injection e4 with e4;subst e3 e4;refine⟨A3,c3,ly,KJ,fun W hW=> ?_⟩;have hbl:=hS _ yx;exact PS g S c.tables p F u name W a n i _ _ hfi hi htv aI (hl.below hW hS) (fun b hb=>l_ (hS b hb) hW.size) (l_ hbl hW.size) ((hW.cell (p:=a.add (i*2)) (by rw[az];exact hbl)).trans hc1) ((hW.cell (p:=⟨(a.add (i*2)).block,(a.add (i*2)).off+1,none⟩) (by show(a.add (i*2)).block<_;rw[az];exact hbl)).trans hc2) rfl (hk.below hW hk.lt)
end
section
open Go Go.RowKit
theorem vJ(s:ByteArray):Lib.strCells s=s.data.toList.map nX:=rfl
theorem pU{w:World}{ops:Array Oper}{rest:List Oper}{o:Oper}{a:Act}{Q:Exit->Act->World->Prop}(hgd:o.guard=none)(s x:Operand)(ho:o.op= .call {callee:= .builtin .append,args:=#[s,x],argTypes:=#[91,9]})(B:Nat)(v:Value)(l:List UInt8)(hs:a.eval s=v)(hown:dH w B v l)(t:ByteArray)(hx:a.eval x= .string t)(hbytes:l.length+t.size<=140737488355328)(hbase:B<=w.heap.size)(h:∀v' w',dH w' B v' (l++t.data.toList)->Below B w w'->wpList Tryz.prog ops Q rest (a.put o.dst v') w'):wpList Tryz.prog ops Q (o::rest) a w:=by
 obtain⟨i,hi,hz,hs1,hb1⟩:=info_parts OU;refine Lib.wpList_append_own_string w hgd s x 91 9 ho B 5 i Tryz.underlying91 Tryz.underlying9 hi hz hs1 hb1 v l.length (l.map nX) hs hown t hx (by unfold maxLen;omega) hbytes hbase ?_;intro v' w' hown' hg _;refine h v' w' ?_ ((Below.refl _ _).grown hg hbase (fun k hk=>(World.ownsRow.lt hown k hk).1));unfold dH;rw[List.length_append,List.map_append,<-vJ];exact(show t.data.toList.length=t.size by simp)▸hown'
section
variable {J:Nat->Act->World->Prop} {Q:Exit->Act->World->Prop} {a:Act} {w:World}
end
end
section
open Go Go.RowKit Go.BigFrame
theorem dH.blk(h:dH w B v l)(hb:∀g,v.ownBlock=some g->w'.heap[g]? =w.heap[g]?):dH w' B v l:=rY h hb
theorem dH.form(h:dH w B v l):∃A c,v= .slice A l.length c/\(∀g,v.ownBlock=some g->B<=g):=by
 rcases h.2 with⟨rfl,h2⟩|⟨g,cap,cur,rfl,hB,hh,Xd,hcm,hcs,CM⟩
 ·exact⟨none,0,by rw[h2],fun g hg=>by simp[Value.ownBlock] at hg⟩
 ·exact⟨_,cap,rfl,fun g' hg=>by simp[Value.ownBlock] at hg;omega⟩
def D6(w:World)(b B:Nat)(l:List UInt8):Prop:=
 ∃p A c,ar w b 117 #[p,.slice A l.length c]/\(p= .pointer none\/p= .pointer (some ⟨b,0,none⟩))/\dH w B (.slice A l.length c) l
theorem D6.below(h:D6 w b B l)(hb:Below w.heap.size w w'):D6 w' b B l:=by
 obtain⟨p,A,c,h1,h2,h3⟩:=h;exact⟨p,A,c,h1.below hb h1.lt,h2,h3.below hb (n_)⟩
theorem Hq(b B:Nat)(l:List UInt8)(w:World)(h:D6 w b B l)(js:b<B):
 Calls Tryz.prog 117 #[.pointer (some ⟨b,0,none⟩)] w fun e w'=>e= .returned (.tuple #[])/\(∃A c,ar w' b 117 #[.pointer (some ⟨b,0,none⟩),.slice A l.length c]/\dH w' B (.slice A l.length c) l)/\Below b w w'/\w'.heap.size=w.heap.size:=by
 obtain⟨p,A,c,h1,h2,h3⟩:=h;rcases h2 with rfl|rfl
 ·have kZ:w.shape? b=some (117,2):=by
   unfold World.shape?;rw[show w.heap[b]? =_ from h1];rfl
  refine(rU 117 2 (by decide) (by kernel_rfl) b w (h1.cell 0) kZ (h1.frozen 0)).mono ?_
  rintro e w' ⟨rfl,rfl⟩;have hb2:∀j,j≠b->(w.setCell ⟨b,0,none⟩ (.pointer (some ⟨b,0,none⟩))).heap[j]? =w.heap[j]? :=fun j hj=>Below.heap_setCell w ⟨b,0,none⟩ _ j (by simpa using hj);refine⟨rfl,⟨A,c,h1.fK 0 _,h3.blk fun g hg=>hb2 g ?_⟩,⟨rfl,rfl,rfl,by simp,fun j hj=>hb2 j (by omega)⟩,by simp⟩;have:=(World.ownsRow.lt h3 g hg).1;omega
 ·refine(uD b w (h1.cell 0)).mono ?_
  rintro e w' ⟨rfl,rfl⟩;exact⟨rfl,⟨A,c,h1,h3⟩,Below.refl _ _,rfl⟩
theorem D6.wrote{w4:World}{cp ZM:Nat}{A A2:Option Addr}{l2:List UInt8}{m:Nat}(h:ar w4 b 117 #[.pointer (some ⟨b,0,none⟩),.slice A m cp])(ho:dH w4 B (.slice A2 l2.length ZM) l2)(hb:Below b w w4)(js:b<B)(hn:n=l2.length):
 D6 (w4.setCell ⟨b,1,none⟩ (.slice A2 n ZM)) b B l2/\Below b w (w4.setCell ⟨b,1,none⟩ (.slice A2 n ZM)):=by
 subst hn;have hx:=h.fK 1 (.slice A2 l2.length ZM);refine⟨⟨_,A2,ZM,hx,.inr rfl,ho.blk fun g hg=>Below.heap_setCell w4 ⟨b,1,none⟩ _ g ?_⟩,hb.setCell (n_) _⟩;have:=(World.ownsRow.lt ho g hg).1;show g≠b;omega
theorem pV(b B:Nat)(l:List UInt8)(t:ByteArray)(w:World)(h:D6 w b B l)(js:b<B)(hB:B<=w.heap.size)(hl:l.length<=4194304)(ht:t.size<=4194304):
 Calls Tryz.prog 69 #[.pointer (some ⟨b,0,none⟩),.string t] w fun e w'=>(∃v,e= .returned v)/\D6 w' b B (l++t.data.toList)/\Below b w w':=by
 have K:=q_ (Hq b B l w h js);clear h;go_enter Tryz.func69,Tryz.ntmps69;go_wp2_with fail;refine K.o.mono ?_;rintro e w1 ⟨rfl,⟨A,cp,hblk,hown⟩,hb1,hsz⟩;have c1:w1.cell? ⟨b,1,none⟩=some (.slice A l.length cp):=hblk.cell 1;have f1:=hblk.frozen 1;have HSZ:=q_ hsz;clear K hsz;go_wp2_with (at_builtin;refine pU rfl (.tmp 12) (.tmp 13) rfl B (.slice A l.length cp) l rfl hown t rfl (by omega) (by have:=HSZ.o;omega) ?_;intro o4 w4 bC hb4;obtain⟨A2,ZM,rfl,dS⟩:=bC.form;have PU:=hblk.below hb4 js;have c4:w4.cell? ⟨b,1,none⟩=some (.slice A l.length cp):=PU.cell 1;have f4:=PU.frozen 1);go_ret2;obtain⟨h1,h2⟩:=D6.wrote (w:=w) (n:=l.length+t.size) PU bC (hb1.trans (hb4.mono (Nat.le_of_lt js))) js (by simp);exact⟨⟨_,rfl⟩,h1,h2⟩
theorem D6.isB(h:D6 w b B l)(js:b<B):Lib.IsBuilder 117 5 b b (Lib.byteCells l) w:=by
 obtain⟨p,A,c,h1,h2,h3⟩:=h
 have hown:w.ownsRow b 5 1 (.slice A l.length c) (Lib.byteCells l).length (Lib.byteCells l):=by
  have hl:(Lib.byteCells l).length=l.length:=by simp[Lib.byteCells]
  rw[hl];refine⟨h3.1,h3.2.imp id ?_⟩;rintro⟨g,cap,cur,e,hg,hr⟩;exact⟨g,cap,cur,e,by omega,hr⟩
 have hne:(Value.slice A l.length c).ownBlock≠some b:=fun e=>by
  have:=(World.ownsRow.lt h3 b e).1;omega
 rcases h2 with rfl|rfl
 ·exact .inl ⟨n_,_,h1,hown,hne⟩
 ·exact .inr ⟨n_,_,h1,hown,hne⟩
theorem vK(b B:Nat)(l:List UInt8)(w:World)(h:D6 w b B l)(js:b<B):Calls Tryz.prog 72 #[.pointer (some ⟨b,0,none⟩)] w fun e w'=>e= .returned (.int .i64 l.length)/\w'=w:=by
 have:=Tryz.Builder_Len b b (Lib.byteCells l) w (h.isB js);simpa[Lib.byteCells] using this
theorem D7(b B:Nat)(l:List UInt8)(w:World)(h:D6 w b B l)(js:b<B):Calls Tryz.prog 73 #[.pointer (some ⟨b,0,none⟩)] w fun e w'=>e= .returned (.string ⟨l.toArray⟩)/\Below b w w':=by
 have hb:b<=w.heap.size:=by
  obtain⟨p,A,c,h1,h2,h3⟩:=h;exact Nat.le_of_lt h1.lt
 exact Tryz.Builder_String_any b b l w (h.isB js) hb
theorem PW(s old:List UInt8)(h:Lib.index s old<0):Lib.cut s old=(s,[],false):=by unfold Lib.cut;rw[if_neg (by omega)]
theorem Ui(s old:List UInt8)(h:¬Lib.index s old<0):Lib.cut s old=(s.take (Lib.index s old).toNat,s.drop ((Lib.index s old).toNat+old.length),true):=by unfold Lib.cut;rw[if_pos (by omega)]
theorem Hr(old iy:List UInt8)(k:Nat)(acc s:List UInt8):M.l8 old iy (k+1) acc s=
 if Lib.index s old<0 then(if 4096<(acc++s).length then none else some (acc++s))
 else(if 4096<(acc++s.take (Lib.index s old).toNat++iy).length then none else M.l8 old iy k (acc++s.take (Lib.index s old).toNat++iy) (s.drop ((Lib.index s old).toNat+old.length))):=rfl
theorem JC(s:ByteArray):(⟨s.data.toList.toArray⟩:ByteArray)=s:=by cases s;simp
theorem X7(s:ByteArray):(s.toList.isEmpty)=M.Ah s:=by rw[ByteArray.toList_eq];rfl
theorem D8(s old iy:ByteArray)(mx:Int)(w:World)(hs:s.size<=1048576)(ho:old.size<=1048576)(hb:iy.size<=1048576)(h2:0<w.heap.size)(hm:w.cell? ⟨0,0,none⟩=some (.int .i64 mx)):
 Calls Tryz.prog 223 #[.string s,.string old,.string iy] w fun e w'=>e=Jm (M.replace s old iy)/\Below w.heap.size w w':=by
 have HBB:=q_ ((Below.refl _ w).alloc (n_) (.cells #[.pointer none,.slice none 0 0] 117));have HA:=q_ (show D6 (w.alloc (.cells #[.pointer none,.slice none 0 0] 117)) w.heap.size (w.heap.size+1) [] from⟨.pointer none,none,0,ar.new w _ _,.inl rfl,⟨rfl,.inl ⟨rfl,rfl⟩⟩⟩);have hz1:(w.alloc (.cells #[.pointer none,.slice none 0 0] 117)).heap.size=w.heap.size+1:=by simp
 have HZ:=q_ hz1;have HM:=q_ (fun(W:World) (h:Below w.heap.size w W)=>(h.cell (p:=⟨0,0,none⟩) h2).trans hm);have sf:=X7 old;clear hz1 hm;cases Uj:M.Ah old with
 |true=>
  rw[Uj] at sf;have HR:=q_ (show M.replace s old iy=if 4096<s.size then .error 2 else .ok s from if_pos Uj);clear Uj;go_enter Tryz.func223,Tryz.ntmps223;go_wp2_with fail;go_loopw [0] (fun v wr=>v= .string s/\D6 wr w.heap.size (w.heap.size+1) []/\Below w.heap.size w wr/\w.heap.size+1<=wr.heap.size) (fun v _=>0)
  case atStart=>exact⟨rfl,HA.o,HBB.o,by rw[HZ.o];exact n_⟩
  case round=>
   obtain⟨rfl,ZN,hbl,hsz⟩:=hrel;have KW:=q_ (pV w.heap.size (w.heap.size+1) [] s wr ZN (by omega) hsz (by simp) (by omega));have B0:=q_ hbl;clear ZN hbl;go_wp2_with fail;refine KW.o.mono ?_;rintro e w2 ⟨⟨v2,rfl⟩,D9,hb2⟩;have A2:=q_ D9;have B2:=q_ (B0.o.trans hb2);clear D9 hb2;have KL:=q_ (vK w.heap.size (w.heap.size+1) _ w2 A2.o (by omega));have KS:=q_ (D7 w.heap.size (w.heap.size+1) _ w2 A2.o (by omega));rw[List.nil_append,JC] at KS;rw[List.nil_append,show s.data.toList.length=s.size from Array.length_toList] at KL;go_wp2_with fail;refine KL.o.mono ?_;rintro e w3 ⟨rfl,rfl⟩;by_cases h4:4096<s.size
   ·have q4:decide ((4096:Int)<(s.size:Int))=true:=by simp;omega
    rw[if_pos h4] at HR;go_wp2;go_ret2;exact⟨by rw[HR.o];rfl,B2.o⟩
   ·have q4:decide ((4096:Int)<(s.size:Int))=false:=by simp;omega
    rw[if_neg h4] at HR;go_wp2_with fail;refine KS.o.mono ?_;rintro e w4 ⟨rfl,hb4⟩;have B4:=q_ (B2.o.trans hb4);clear hb4;go_wp2;go_ret2;exact⟨by rw[HR.o];rfl,B4.o⟩
 |false=>
  rw[Uj] at sf
  have hol:1<=old.data.toList.length:=by
   unfold M.Ah at Uj;cases h:old.data.toList with
   |nil=>rw[h] at Uj;cases Uj
   |cons x l=>simp
  have HOL:=q_ hol;have HR:=q_ (show M.replace s old iy=match M.l8 old.data.toList iy.data.toList (s.size+1) [] s.data.toList with|some l=> .ok (M.T l)|none=> .error 2 from if_neg (by rw[Uj];simp));clear Uj hol;have HOS:=q_ (show old.data.toList.length=old.size from Array.length_toList);have HBS:=q_ (show iy.data.toList.length=iy.size from Array.length_toList);have HST:=q_ (fun(k:Nat) (acc r:List UInt8)=>Hr old.data.toList iy.data.toList k acc r);go_enter Tryz.func223,Tryz.ntmps223;go_wp2_with fail;go_loopw [0] (fun v wr=>∃(r:ByteArray) (acc:List UInt8) (k:Nat),v= .string r/\r.size<=1048576/\acc.length<=4096/\r.size<k/\M.l8 old.data.toList iy.data.toList k acc r.data.toList=M.l8 old.data.toList iy.data.toList (s.size+1) [] s.data.toList/\D6 wr w.heap.size (w.heap.size+1) acc/\Below w.heap.size w wr/\w.heap.size+1<=wr.heap.size) (fun v _=>match v with| .string r=>r.size|_=>0)
  case atStart=>exact⟨s,[],s.size+1,rfl,hs,by simp,by omega,rfl,HA.o,HBB.o,by rw[HZ.o];exact n_⟩
  case round=>
   obtain⟨r,acc,k,rfl,hr1,xC,hrk,Cm,ZN,hbl,hsz⟩:=hrel;obtain⟨k,rfl⟩:∃k',k=k'+1:=⟨k-1,by omega⟩
   have RE:=q_ Cm;have A0:=q_ ZN;have B0:=q_ hbl;have KC:=q_ (Tryz.strings_Cut r old mx wr (by omega) (HM.o wr hbl));have RS:=q_ (show r.data.toList.length=r.size from Array.length_toList);have ST:=q_ (HST.o k acc r.data.toList);clear Cm ZN hbl;by_cases hi:Lib.index r.data.toList old.data.toList<0
   ·rw[PW _ _ hi,JC] at KC
    have HF:=q_ (show M.replace s old iy=if 4096<(acc++r.data.toList).length then .error 2 else .ok (M.T (acc++r.data.toList)) by
     rw[HR.o,<-RE.o,ST.o,if_pos hi];by_cases h:4096<(acc++r.data.toList).length
     ·rw[if_pos h,if_pos h]
     ·rw[if_neg h,if_neg h])
    go_wp2_with fail;refine KC.o.mono ?_;rintro e w1 ⟨rfl,n1,uH⟩;have S1:=q_ (show Below wr.heap.size wr w1 by rw[uH];exact below_drewN (Below.refl _ _) _);have A1:=q_ (A0.o.below S1.o);have B1:=q_ (B0.o.trans (S1.o.mono B0.o.size));have s1:=S1.o.size;clear uH;have KW:=q_ (pV w.heap.size (w.heap.size+1) acc r w1 A1.o (by omega) (by omega) (by omega) (by omega));go_wp2_with fail;refine KW.o.mono ?_;rintro e w2 ⟨⟨v2,rfl⟩,D9,hb2⟩;have A2:=q_ D9;have B2:=q_ (B1.o.trans hb2);clear D9 hb2;have KL:=q_ (vK w.heap.size (w.heap.size+1) _ w2 A2.o (by omega));have KS:=q_ (D7 w.heap.size (w.heap.size+1) _ w2 A2.o (by omega));generalize acc++r.data.toList=res at*;go_wp2_with fail;refine KL.o.mono ?_;rintro e w3 ⟨rfl,rfl⟩;by_cases h4:4096<res.length
    ·have q4:decide ((4096:Int)<(res.length:Int))=true:=by simp;omega
     rw[if_pos h4] at HF;go_wp2;go_ret2;exact⟨by rw[HF.o];rfl,B2.o⟩
    ·have q4:decide ((4096:Int)<(res.length:Int))=false:=by simp;omega
     rw[if_neg h4] at HF;go_wp2_with fail;refine KS.o.mono ?_;rintro e w4 ⟨rfl,hb4⟩;have B4:=q_ (B2.o.trans hb4);clear hb4;go_wp2;go_ret2;exact⟨by rw[HF.o];rfl,B4.o⟩
   ·rw[Ui _ _ hi] at KC
    have F5:=Lib.index_le r.data.toList old.data.toList;rw[RS.o] at F5;have hir:=Lib.index_room r.data.toList old.data.toList (by omega);rw[RS.o] at hir;have STP:=q_ (ST.o.trans (if_neg hi));generalize D5:(Lib.index r.data.toList old.data.toList).toNat=i at*;have Jt:i+old.data.toList.length<=r.size:=by omega
    have tl:(r.data.toList.take i).length<=1048576:=by rw[List.length_take];omega
    have HD:=q_ (show(r.data.toList.drop (i+old.data.toList.length)).length<r.size by rw[List.length_drop,RS.o];have:=HOL.o;omega);clear F5 hir D5 hi;generalize hp:r.data.toList.take i=p at*;generalize hd:r.data.toList.drop (i+old.data.toList.length)=q at*;clear hp hd Jt;go_wp2_with fail;refine KC.o.mono ?_;rintro e w1 ⟨rfl,n1,uH⟩;have S1:=q_ (show Below wr.heap.size wr w1 by rw[uH];exact below_drewN (Below.refl _ _) _);have A1:=q_ (A0.o.below S1.o);have B1:=q_ (B0.o.trans (S1.o.mono B0.o.size));have s1:=S1.o.size;clear uH;have SE:(⟨p.toArray⟩:ByteArray).size=p.length:=by simp[ByteArray.size]
    have hqs:(⟨q.toArray⟩:ByteArray).size=q.length:=by simp[ByteArray.size]
    have KW:=q_ (pV w.heap.size (w.heap.size+1) acc ⟨p.toArray⟩ w1 A1.o (by omega) (by omega) (by omega) (by omega));go_wp2_with fail;refine KW.o.mono ?_;rintro e w2 ⟨⟨v2,rfl⟩,D9,hb2⟩;have A2:=q_ (show D6 w2 w.heap.size (w.heap.size+1) (acc++p) by simpa using D9);have B2:=q_ (B1.o.trans hb2);have s2:=hb2.size;clear D9 hb2;have KV:=q_ (pV w.heap.size (w.heap.size+1) (acc++p) iy w2 A2.o (by omega) (by omega) (by rw[List.length_append];omega) (by omega));go_wp2_with fail;refine KV.o.mono ?_;rintro e w3 ⟨⟨v3,rfl⟩,jaM,hb3⟩;have A3:=q_ jaM;have B3:=q_ (B2.o.trans hb3);have s3:=hb3.size;clear jaM hb3;have KL:=q_ (vK w.heap.size (w.heap.size+1) _ w3 A3.o (by omega));generalize acc++p++iy.data.toList=Lm at*;go_wp2_with fail;refine KL.o.mono ?_;rintro e w4 ⟨rfl,rfl⟩;by_cases h4:4096<Lm.length
    ·have q4:decide ((4096:Int)<(Lm.length:Int))=true:=by simp;omega
     have HF:=q_ (show M.replace s old iy= .error 2 by rw[HR.o,<-RE.o,STP.o,if_pos h4]);go_wp2;go_ret2;exact⟨by rw[HF.o];rfl,B3.o⟩
    ·have q4:decide ((4096:Int)<(Lm.length:Int))=false:=by simp;omega
     have HF:=q_ (show M.l8 old.data.toList iy.data.toList k Lm q=M.l8 old.data.toList iy.data.toList (s.size+1) [] s.data.toList by rw[<-RE.o,STP.o,if_neg h4]);have hql:=HD.o;go_wp2;go_roundw
     case rel=>exact⟨⟨q.toArray⟩,Lm,k,rfl,by omega,by omega,by omega,by simpa using HF.o,A3.o,B3.o,by omega⟩
     case measure=>simp;omega
end
section
open Go.RowKit
theorem sk(g f:Nat)(hf:f<20)(W:World):(Instr.sliceAt 297 (.pointer (some ⟨g,0,none⟩)) (some (.int .i64 f)) none none).run Tryz.prog W= .ok (.slice (some ⟨g,f,none⟩) (20-f) (20-f)) W:=by
 have Tz:Tryz.prog.arrayLen 297=20:=by kernel_rfl
 have CN:Tryz.prog.elem 297=5:=by kernel_rfl
 have h:=run_sliceAt_array_l (P:=Tryz.prog) W 297 ⟨g,0,none⟩ (by rw[Tz,CN];exact Tryz.underlying297) .i64 (f:Int) (by omega) (by rw[Tz];omega);rw[h,CN,Tz];have hs:(sizeOf 5).run Tryz.prog W= .ok 1 W:=by have:=Tryz.sizeOf5;simp[go_sem]
 rw[hs];simp only[Result.andThen_ok,slicedAt,Int.toNat_natCast,Nat.mul_one];rw[if_neg (by omega)];simp[Addr.add];exact fun h=>h.symm
theorem V9(m:Nat):((48:Int)+(m:Int)%10)=(((UInt8.ofNat (48+m%10)).toNat:Nat):Int):=by
 have h:48+m%10<256:=by omega
 simp[Nat.mod_eq_of_lt h]
theorem ru(f:Nat)(acc:List UInt8)(b:UInt8)(hf:1<=f):(List.replicate f (0:UInt8)++acc).set (f-1) b=List.replicate (f-1) 0++b::acc:=by
 obtain⟨k,rfl⟩:∃k,f=k+1:=⟨f-1,by omega⟩
 rw[List.replicate_succ',List.append_assoc];simp only[Nat.add_sub_cancel];rw[List.set_append_right _ _ (by simp)];simp
theorem Ht(v:Int)(w:World)(ha: -9223372036854775808<=v)(ha':v<=9223372036854775807):
 Calls Tryz.prog 228 #[.int .i64 v] w fun e w'=>e= .returned (.string ⟨(P.digits v).toArray⟩)/\Below w.heap.size w w':=by
 have jaN:=q_ (ar.new w 297 (bD (List.replicate 20 0)));by_cases LW:v<0
 ·obtain⟨n,hn⟩:∃n:Nat,v= -(n:Int):=⟨v.natAbs,by omega⟩
  subst hn;have ZO:decide (0<n)=true:=by simp;omega
  have hres:P.digits (-(n:Int))=45::P.bP 20 n:=by simp[P.digits,(by omega:0<n)]
  have hN:=P.iP 20 n 19 (by omega) (by omega);rw[hres];clear hres;go_enter Tryz.func228,Tryz.ntmps228;go_wp2;rw[show IntKind.u64.wrap (-IntKind.u64.wrap (-(n:Int)))=(n:Int) from by simp only[IntKind.wrap_u64];omega];go_loopw [4,5] (fun x y wr=>∃f m:Nat,∃acc:List UInt8,1<=f/\f<=20/\m<10^f/\acc.length=20-f/\y= .int .i64 f/\x= .int .u64 m/\m<=9223372036854775808/\P.bP f m++acc=P.bP 20 n/\ar wr w.heap.size 297 (bD (List.replicate f 0++acc))/\Below w.heap.size w wr) (fun _ y _=>(intOf y).toNat)
  case atStart=>exact⟨20,n,[],by omega,by omega,by omega,rfl,rfl,rfl,by omega,by simp,by simpa[bD] using jaN.o,(Below.refl _ _).alloc (n_) _⟩
  case round=>
   obtain⟨f,m,acc,Tv,hf2,hm,xC,rfl,rfl,xt,vL,hblk,bS⟩:=hrel;obtain⟨f',rfl⟩:∃k,f=k+1:=⟨f-1,by omega⟩
   have hcell:=hblk.cell f';have vn:=hblk.frozen f';obtain⟨u,hu⟩:∃u,(bD (List.replicate (f'+1) 0++acc))[f']? =some u:=⟨_,Array.getElem?_eq_getElem (by simp[dU];omega)⟩
   rw[hu] at hcell;clear hu;have hs:=hblk.fK f' (.int .u8 (((UInt8.ofNat (48+m%10)).toNat:Nat):Int));have he:=ru (f'+1) acc (UInt8.ofNat (48+m%10)) Tv;rw[Nat.add_sub_cancel] at he;rw[jm,he] at hs;have hv:=V9 m;rw[<-hv] at hs;have Hs:=q_ hs;clear hs he hv;have eZ:=q_ (bS.setCell (p:=⟨w.heap.size,f',none⟩) (n_) (.int .u8 (48+(m:Int)%10)));by_cases FA:m/10=0
   ·have Bb:P.bP 20 n=UInt8.ofNat (48+m%10)::acc:=by rw[<-vL];simp[P.bP,FA]
    have ht:((m:Int)/10==0)=true:=by simp;omega
    have X8:=q_ Bb;have hf3:1<=f':=by rw[Bb] at hN;simp at hN;omega
    have xD:=q_ xC;have jb8:=q_ vL;have Hm0:=q_ FA;clear vL Bb FA xC hm;have Ow:=hblk.cell (f'-1);have hfr2:=hblk.frozen (f'-1);obtain⟨u2,nv⟩:∃u,(bD (List.replicate (f'+1) 0++acc))[f'-1]? =some u:=⟨_,Array.getElem?_eq_getElem (by have:=xD.o;simp[dU];omega)⟩
    rw[nv] at Ow;clear nv hblk;have hblk:=Hs.o;have Hs2:=hblk.fK (f'-1) (.int .u8 (((45:UInt8).toNat:Nat):Int));rw[jm,ru f' _ _ hf3] at Hs2;have Zz:=sk w.heap.size (f'-1) (by omega);rw[show((f'-1:Nat):Int)=(f':Int)-1 from by omega] at Zz;have hst:=jX (off:=f'-1) (n:=20-(f'-1)) (c:=20-(f'-1)) Hs2 (by have:=xD.o;simp;omega)
    rw[show((List.replicate (f'-1) (0:UInt8)++45::UInt8.ofNat (48+m%10)::acc).drop (f'-1)).take (20-(f'-1))=45::P.bP 20 n from by
     rw[X8.o,List.drop_left' (by simp),List.take_of_length_le (by have:=xD.o;simp;omega)]] at hst
    have hst:(convert 91 9 (Value.slice (some ⟨w.heap.size,f'-1,none⟩) (20-(f'-1)) (20-(f'-1)))).run Tryz.prog ((wr.setCell ⟨w.heap.size,f',none⟩ (.int .u8 (48+(m:Int)%10))).setCell ⟨w.heap.size,f'-1,none⟩ (.int .u8 45))= .ok (.string ⟨(45::P.bP 20 n).toArray⟩) ((wr.setCell ⟨w.heap.size,f',none⟩ (.int .u8 (48+(m:Int)%10))).setCell ⟨w.heap.size,f'-1,none⟩ (.int .u8 45)):=hst;clear hblk;go_wp2;go_ret;exact⟨rfl,eZ.o.setCell (n_) _⟩
   ·have hstep:P.bP f' (m/10)++UInt8.ofNat (48+m%10)::acc=P.bP 20 n:=by rw[<-vL];simp[P.bP,FA]
    have ht:((m:Int)/10==0)=false:=by simp;omega
    have hlt:m/10<10^f':=by rw[Nat.div_lt_iff_lt_mul (by omega),<-Nat.pow_succ];exact hm
    have hf3:1<=f':=by
     rcases Nat.eq_zero_or_pos f' with h|h
     ·subst h;omega
     ·exact h
    have Hst:=q_ hstep;have Hlt:=q_ hlt;have xD:=q_ xC;clear hstep vL hm hlt FA xC hblk;go_wp2;go_roundw
    case rel=>exact⟨f',m/10,_,hf3,by omega,Hlt.o,by have:=xD.o;simp;omega,by go_num,by go_num,by omega,Hst.o,Hs.o,eZ.o⟩
    case measure=>simp[intOf]
 ·obtain⟨n,rfl⟩:=Int.eq_ofNat_of_zero_le (by omega:0<=v)
  have hres:P.digits (n:Int)=P.bP 20 n:=by simp[P.digits]
  have hN:=P.iP 20 n 19 (by omega) (by omega);rw[hres];clear hres;go_enter Tryz.func228,Tryz.ntmps228;go_wp2;go_loopw [4,5] (fun x y wr=>∃f m:Nat,∃acc:List UInt8,1<=f/\f<=20/\m<10^f/\acc.length=20-f/\y= .int .i64 f/\x= .int .u64 m/\m<=9223372036854775808/\P.bP f m++acc=P.bP 20 n/\ar wr w.heap.size 297 (bD (List.replicate f 0++acc))/\Below w.heap.size w wr) (fun _ y _=>(intOf y).toNat)
  case atStart=>exact⟨20,n,[],by omega,by omega,by omega,rfl,rfl,rfl,by omega,by simp,by simpa[bD] using jaN.o,(Below.refl _ _).alloc (n_) _⟩
  case round=>
   obtain⟨f,m,acc,Tv,hf2,hm,xC,rfl,rfl,xt,vL,hblk,bS⟩:=hrel;obtain⟨f',rfl⟩:∃k,f=k+1:=⟨f-1,by omega⟩
   have hcell:=hblk.cell f';have vn:=hblk.frozen f';obtain⟨u,hu⟩:∃u,(bD (List.replicate (f'+1) 0++acc))[f']? =some u:=⟨_,Array.getElem?_eq_getElem (by simp[dU];omega)⟩
   rw[hu] at hcell;clear hu;have hs:=hblk.fK f' (.int .u8 (((UInt8.ofNat (48+m%10)).toNat:Nat):Int));have he:=ru (f'+1) acc (UInt8.ofNat (48+m%10)) Tv;rw[Nat.add_sub_cancel] at he;rw[jm,he] at hs;have hv:=V9 m;rw[<-hv] at hs;have Hs:=q_ hs;clear hs he hv;have eZ:=q_ (bS.setCell (p:=⟨w.heap.size,f',none⟩) (n_) (.int .u8 (48+(m:Int)%10)));by_cases FA:m/10=0
   ·have Bb:P.bP 20 n=UInt8.ofNat (48+m%10)::acc:=by rw[<-vL];simp[P.bP,FA]
    have ht:((m:Int)/10==0)=true:=by simp;omega
    have X8:=q_ Bb;have hf3:1<=f':=by rw[Bb] at hN;simp at hN;omega
    have xD:=q_ xC;have jb8:=q_ vL;have Hm0:=q_ FA;clear vL Bb FA xC hm;have Zz:=sk w.heap.size f' (by omega);have hst:=jX (off:=f') (n:=20-f') (c:=20-f') Hs.o (by have:=xD.o;simp;omega)
    rw[show((List.replicate f' (0:UInt8)++UInt8.ofNat (48+m%10)::acc).drop f').take (20-f')=P.bP 20 n from by
     rw[X8.o,List.drop_left' (by simp),List.take_of_length_le (by have:=xD.o;simp;omega)]] at hst
    go_wp2;go_ret;exact⟨rfl,eZ.o⟩
   ·have hstep:P.bP f' (m/10)++UInt8.ofNat (48+m%10)::acc=P.bP 20 n:=by rw[<-vL];simp[P.bP,FA]
    have ht:((m:Int)/10==0)=false:=by simp;omega
    have hlt:m/10<10^f':=by rw[Nat.div_lt_iff_lt_mul (by omega),<-Nat.pow_succ];exact hm
    have hf3:1<=f':=by
     rcases Nat.eq_zero_or_pos f' with h|h
     ·subst h;omega
     ·exact h
    have Hst:=q_ hstep;have Hlt:=q_ hlt;have xD:=q_ xC;clear hstep vL hm hlt FA xC hblk;go_wp2;go_roundw
    case rel=>exact⟨f',m/10,_,hf3,by omega,Hlt.o,by have:=xD.o;simp;omega,by go_num,by go_num,by omega,Hst.o,Hs.o,eZ.o⟩
    case measure=>simp[intOf]
end
section
open Go Go.RowKit Go.BigFrame Go.Maps Go.WideMaps
structure lC(w:World)(ab ga n c:Nat)(a:List M.Val):Prop where
 blk:ar w ab 255 #[.slice (some ⟨ga,0,none⟩) n c]
 len:a.length=n
 cell:∀(i:Nat) (v:M.Val),a[i]? =some v->w.cell? ⟨ga,i*4+1,none⟩=some (.string v.text)/\w.cell? ⟨ga,i*4+2,none⟩=some (.int .i64 v.num)
 ok:∀v∈a,iF v
 lt:ga<w.heap.size
theorem lC.below(h:lC w ab ga n c a)(hb:Below w.heap.size w w'):lC w' ab ga n c a:=
 ⟨h.blk.below hb h.blk.lt,h.len,fun i v hi=>⟨(hb.cell (p:=⟨ga,i*4+1,none⟩) h.lt).trans (h.cell i v hi).1,(hb.cell (p:=⟨ga,i*4+2,none⟩) h.lt).trans (h.cell i v hi).2⟩,h.ok,l_ h.lt hb.size⟩
theorem ry{i:Nat}(h:i<a.length):∃v,a[i]? =some v/\M.aY a i=v:=⟨a[i],e_ h,by unfold M.aY;rw[List.getD_eq_getElem?_getD,e_ h];rfl⟩
theorem lC.arg(hA:lC w ab ga n c a)(i:Nat)(hi:i<a.length):∃v,M.aY a i=v/\Q_ (iF v)/\Q_ (∀W,Below w.heap.size w W->W.cell? ⟨ga,i*4+1,none⟩=some (.string v.text)/\W.cell? ⟨ga,i*4+2,none⟩=some (.int .i64 v.num)):=by
 obtain⟨v,h,e⟩:=ry hi;exact⟨v,e,q_ (hA.ok v (m_ h)),q_ (fun W hW=>(hA.below hW).cell i v h)⟩
theorem Ea(t:ByteArray):Jm (.ok t)= .returned (.tuple #[.string t,.int .i64 0]):=rfl
theorem yP(k:Int):Jm (.error k)= .returned (.tuple #[.string ⟨#[]⟩,.int .i64 k]):=rfl
theorem mn{old:ByteArray}(h:M.replace s old iy= .error k):k≠0:=by
 unfold M.replace at h;split at h
 ·split at h
  ·cases h;decide
  ·cases h
 ·split at h
  ·cases h
  ·cases h;decide
theorem Bc{n:Int}(h:M.pad s n iy= .error k):k≠0:=by
 unfold M.pad at h;split at h
 ·split at h
  ·cases h;decide
  ·cases h
 ·split at h
  ·cases h;decide
  ·cases h
theorem Uk(a:List M.Val)(ab ga n c:Nat)(w:World)(hA:lC w ab ga n c a)(hk:1<=a.length):
 Calls Tryz.prog 210 #[.pointer (some ⟨ab,0,none⟩)] w fun e w'=>e=dD (.ok (M.fx (M.aY a 0).text.size))/\Below w.heap.size w w':=by
 obtain⟨v0,e0,O0,C0⟩:=hA.arg 0 (by omega);have g0:(0<n)=True:=eq_true (by have:=hA.len;omega);have PX:((0:Int)<(n:Int))=True:=eq_true (by have:=hA.len;omega);have HE:=q_ (show(.ok (M.fx (M.aY a 0).text.size):Except Int M.Val)= .ok (M.fx v0.text.size) by rw[e0]);have HA:=q_ hA;have K1:=q_ (ar.new w 33 #[.int .i64 0,.string ⟨#[]⟩,.int .i64 0,.bool false]);have B1:=q_ ((Below.refl _ w).alloc (n_) (.cells #[.int .i64 0,.string ⟨#[]⟩,.int .i64 0,.bool false] 33));have z:=(HA.o.below B1.o).blk.cell;obtain⟨x0,y0⟩:=C0.o _ B1.o;clear hA e0;go_enter Tryz.func210,Tryz.ntmps210;go_wp2_with fail;refine(iG _ _).mono ?_
 rintro e w2 ⟨rfl,hb⟩;have B2:=q_ (B1.o.trans (hb.mono B1.o.size));have K2:=q_ (K1.o.below hb K1.o.lt);clear hb;go_wp2_with (refine aq rfl (.tmp 1) (.tmp 7) rfl w.heap.size (M.fx v0.text.size) (by rfl) (by rfl) (K2.o) rfl ?_;intro w9 k9 g9;have K9:=q_ k9;have B9:=q_ (ai B2.o g9 (n_));clear k9 g9)
 (try simp only[Exit.inBlock,Exit.then]);exact bodyPost_ret (aT rfl K9.o rfl) rfl ⟨by rw[HE.o];rfl,B9.o⟩
theorem Ul(a:List M.Val)(ab ga n c:Nat)(w:World)(hA:lC w ab ga n c a)(hk:1<=a.length):
 Calls Tryz.prog 211 #[.pointer (some ⟨ab,0,none⟩)] w fun e w'=>e=dD (.ok (M.br (M.turned 97 122 (M.aY a 0).text)))/\Below w.heap.size w w':=by
 obtain⟨v0,e0,O0,C0⟩:=hA.arg 0 (by omega);have g0:(0<n)=True:=eq_true (by have:=hA.len;omega);have PX:((0:Int)<(n:Int))=True:=eq_true (by have:=hA.len;omega);have HE:=q_ (show(.ok (M.br (M.turned 97 122 (M.aY a 0).text)):Except Int M.Val)= .ok (M.br (M.turned 97 122 v0.text)) by rw[e0]);have HA:=q_ hA;have K1:=q_ (ar.new w 33 #[.int .i64 0,.string ⟨#[]⟩,.int .i64 0,.bool false]);have B1:=q_ ((Below.refl _ w).alloc (n_) (.cells #[.int .i64 0,.string ⟨#[]⟩,.int .i64 0,.bool false] 33));have z:=(HA.o.below B1.o).blk.cell;obtain⟨x0,y0⟩:=C0.o _ B1.o;clear hA e0;go_enter Tryz.func211,Tryz.ntmps211;go_wp2_with fail;refine(Lg v0.text _ O0.o.text).mono ?_
 rintro e w2 ⟨rfl,hb⟩;have B2:=q_ (B1.o.trans (hb.mono B1.o.size));have K2:=q_ (K1.o.below hb K1.o.lt);clear hb;go_wp2_with fail;refine(cR _ _).mono ?_
 rintro e w3 ⟨rfl,hb⟩;have B3:=q_ (B2.o.trans (hb.mono B2.o.size));have K3:=q_ (K2.o.below hb K2.o.lt);clear hb;go_wp2_with (refine aq rfl (.tmp 1) (.tmp 7) rfl w.heap.size (M.br (M.turned 97 122 v0.text)) (by rfl) (by rfl) (K3.o) rfl ?_;intro w9 k9 g9;have K9:=q_ k9;have B9:=q_ (ai B3.o g9 (n_));clear k9 g9)
 (try simp only[Exit.inBlock,Exit.then]);exact bodyPost_ret (aT rfl K9.o rfl) rfl ⟨by rw[HE.o];rfl,B9.o⟩
theorem Um(a:List M.Val)(ab ga n c:Nat)(w:World)(hA:lC w ab ga n c a)(hk:1<=a.length):
 Calls Tryz.prog 213 #[.pointer (some ⟨ab,0,none⟩)] w fun e w'=>e=dD (.ok (M.br (M.turned 65 90 (M.aY a 0).text)))/\Below w.heap.size w w':=by
 obtain⟨v0,e0,O0,C0⟩:=hA.arg 0 (by omega);have g0:(0<n)=True:=eq_true (by have:=hA.len;omega);have PX:((0:Int)<(n:Int))=True:=eq_true (by have:=hA.len;omega);have HE:=q_ (show(.ok (M.br (M.turned 65 90 (M.aY a 0).text)):Except Int M.Val)= .ok (M.br (M.turned 65 90 v0.text)) by rw[e0]);have HA:=q_ hA;have K1:=q_ (ar.new w 33 #[.int .i64 0,.string ⟨#[]⟩,.int .i64 0,.bool false]);have B1:=q_ ((Below.refl _ w).alloc (n_) (.cells #[.int .i64 0,.string ⟨#[]⟩,.int .i64 0,.bool false] 33));have z:=(HA.o.below B1.o).blk.cell;obtain⟨x0,y0⟩:=C0.o _ B1.o;clear hA e0;go_enter Tryz.func213,Tryz.ntmps213;go_wp2_with fail;refine(Lh v0.text _ O0.o.text).mono ?_
 rintro e w2 ⟨rfl,hb⟩;have B2:=q_ (B1.o.trans (hb.mono B1.o.size));have K2:=q_ (K1.o.below hb K1.o.lt);clear hb;go_wp2_with fail;refine(cR _ _).mono ?_
 rintro e w3 ⟨rfl,hb⟩;have B3:=q_ (B2.o.trans (hb.mono B2.o.size));have K3:=q_ (K2.o.below hb K2.o.lt);clear hb;go_wp2_with (refine aq rfl (.tmp 1) (.tmp 7) rfl w.heap.size (M.br (M.turned 65 90 v0.text)) (by rfl) (by rfl) (K3.o) rfl ?_;intro w9 k9 g9;have K9:=q_ k9;have B9:=q_ (ai B3.o g9 (n_));clear k9 g9)
 (try simp only[Exit.inBlock,Exit.then]);exact bodyPost_ret (aT rfl K9.o rfl) rfl ⟨by rw[HE.o];rfl,B9.o⟩
theorem Un(a:List M.Val)(ab ga n c:Nat)(w:World)(hA:lC w ab ga n c a)(hk:1<=a.length):
 Calls Tryz.prog 215 #[.pointer (some ⟨ab,0,none⟩)] w fun e w'=>e=dD (.ok (M.br (M.trim (M.aY a 0).text)))/\Below w.heap.size w w':=by
 obtain⟨v0,e0,O0,C0⟩:=hA.arg 0 (by omega);have g0:(0<n)=True:=eq_true (by have:=hA.len;omega);have PX:((0:Int)<(n:Int))=True:=eq_true (by have:=hA.len;omega);have HE:=q_ (show(.ok (M.br (M.trim (M.aY a 0).text)):Except Int M.Val)= .ok (M.br (M.trim v0.text)) by rw[e0]);have HA:=q_ hA;have K1:=q_ (ar.new w 33 #[.int .i64 0,.string ⟨#[]⟩,.int .i64 0,.bool false]);have B1:=q_ ((Below.refl _ w).alloc (n_) (.cells #[.int .i64 0,.string ⟨#[]⟩,.int .i64 0,.bool false] 33));have z:=(HA.o.below B1.o).blk.cell;obtain⟨x0,y0⟩:=C0.o _ B1.o;clear hA e0;go_enter Tryz.func215,Tryz.ntmps215;go_wp2_with fail;refine(AA v0.text _ O0.o.text).mono ?_
 rintro e w2 ⟨rfl,hb⟩;have B2:=q_ (B1.o.trans (hb.mono B1.o.size));have K2:=q_ (K1.o.below hb K1.o.lt);clear hb;go_wp2_with fail;refine(cR _ _).mono ?_
 rintro e w3 ⟨rfl,hb⟩;have B3:=q_ (B2.o.trans (hb.mono B2.o.size));have K3:=q_ (K2.o.below hb K2.o.lt);clear hb;go_wp2_with (refine aq rfl (.tmp 1) (.tmp 7) rfl w.heap.size (M.br (M.trim v0.text)) (by rfl) (by rfl) (K3.o) rfl ?_;intro w9 k9 g9;have K9:=q_ k9;have B9:=q_ (ai B3.o g9 (n_));clear k9 g9)
 (try simp only[Exit.inBlock,Exit.then]);exact bodyPost_ret (aT rfl K9.o rfl) rfl ⟨by rw[HE.o];rfl,B9.o⟩
def X9(s:ByteArray):Except Int M.Val:=if P.ew (M.L s)=true then .ok (M.fx (P.lL (M.L s))) else .error 11
theorem LX(s:ByteArray)(h:s.size<=1048576):(P.ew s.data.toList=true/\P.uI s.data.toList=0)\/(P.ew s.data.toList=false/\P.uI s.data.toList=11):=by
 cases hq:P.ew s.data.toList with
 |true=>exact .inl ⟨rfl,by simp[P.uI,hq]⟩
 |false=>exact .inr ⟨rfl,by simp[P.uI,hq]⟩
theorem Uo(a:List M.Val)(ab ga n c:Nat)(w:World)(hA:lC w ab ga n c a)(hk:1<=a.length):
 Calls Tryz.prog 226 #[.pointer (some ⟨ab,0,none⟩)] w fun e w'=>e=dD (X9 (M.aY a 0).text)/\Below w.heap.size w w':=by
 obtain⟨v0,e0,O0,C0⟩:=hA.arg 0 (by omega);have g0:(0<n)=True:=eq_true (by have:=hA.len;omega);have PX:((0:Int)<(n:Int))=True:=eq_true (by have:=hA.len;omega);have HE:=q_ (show(X9 (M.aY a 0).text:Except Int M.Val)=X9 v0.text by rw[e0]);have HA:=q_ hA;have K1:=q_ (ar.new w 33 #[.int .i64 0,.string ⟨#[]⟩,.int .i64 0,.bool false]);have B1:=q_ ((Below.refl _ w).alloc (n_) (.cells #[.int .i64 0,.string ⟨#[]⟩,.int .i64 0,.bool false] 33));have z:=(HA.o.below B1.o).blk.cell;obtain⟨x0,y0⟩:=C0.o _ B1.o;clear hA e0;go_enter Tryz.func226,Tryz.ntmps226;go_wp2_with fail;refine(GU v0.text _ (t_ O0.o.text (by decide))).mono ?_
 rintro e w2 ⟨rfl,h2⟩;subst h2;rcases LX v0.text O0.o.text with⟨hq,hE⟩|⟨hq,hE⟩
 ·have HS:=q_ (HE.o.trans (if_pos hq))
  have HV:=q_ (show P.lL v0.text.data.toList=P.lL (M.L v0.text) from rfl);rw[hE];generalize P.lL v0.text.data.toList=V at HV⊢;clear hq hE HE;go_wp2_with fail;refine(q9 _).mono ?_
  rintro e w2 ⟨rfl,h2⟩;have h2:=h2.symm;subst h2;go_wp2_with fail;refine(iG _ _).mono ?_
  rintro e w2 ⟨rfl,hb⟩;have B2:=q_ (B1.o.trans (hb.mono B1.o.size));have K2:=q_ (K1.o.below hb K1.o.lt);clear hb;go_wp2_with (refine aq rfl (.tmp 1) (.tmp 15) rfl w.heap.size (M.fx V) (by rfl) (by rfl) (K2.o) rfl ?_;intro w9 k9 g9;have K9:=q_ k9;have B9:=q_ (ai B2.o g9 (n_));clear k9 g9)
  (try simp only[Exit.inBlock,Exit.then]);exact bodyPost_ret (aT rfl K9.o rfl) rfl ⟨by rw[HS.o,<-HV.o];rfl,B9.o⟩
 ·have HS:=q_ (HE.o.trans (if_neg (by rw[show M.L v0.text=v0.text.data.toList from rfl,hq];simp)))
  rw[hE];generalize P.lL v0.text.data.toList=V;clear hq hE HE;go_wp2_with fail;refine(vo 11 (by decide) _).mono ?_
  rintro e w2 ⟨rfl,h2⟩;have h2:=h2.symm;subst h2;unfold dt;go_wp2;exact⟨rfl,by rw[HS.o];rfl,B1.o⟩
theorem PY(a:List M.Val)(ab ga n c:Nat)(w:World)(hA:lC w ab ga n c a)(hk:1<=a.length):
 Calls Tryz.prog 227 #[.pointer (some ⟨ab,0,none⟩)] w fun e w'=>e=dD (.ok (M.br (M.T (P.digits (M.aY a 0).num))))/\Below w.heap.size w w':=by
 obtain⟨v0,e0,O0,C0⟩:=hA.arg 0 (by omega);have g0:(0<n)=True:=eq_true (by have:=hA.len;omega);have PX:((0:Int)<(n:Int))=True:=eq_true (by have:=hA.len;omega);have HE:=q_ (show(.ok (M.br (M.T (P.digits (M.aY a 0).num))):Except Int M.Val)= .ok (M.br (M.T (P.digits v0.num))) by rw[e0]);have HA:=q_ hA;have K1:=q_ (ar.new w 33 #[.int .i64 0,.string ⟨#[]⟩,.int .i64 0,.bool false]);have B1:=q_ ((Below.refl _ w).alloc (n_) (.cells #[.int .i64 0,.string ⟨#[]⟩,.int .i64 0,.bool false] 33));have z:=(HA.o.below B1.o).blk.cell;obtain⟨x0,y0⟩:=C0.o _ B1.o;clear hA e0;go_enter Tryz.func227,Tryz.ntmps227;go_wp2_with fail;refine(Ht v0.num _ (by have:=O0.o.lo;omega) (by have:=O0.o.hi;omega)).mono ?_
 rintro e w2 ⟨rfl,hb⟩;have B2:=q_ (B1.o.trans (hb.mono B1.o.size));have K2:=q_ (K1.o.below hb K1.o.lt);clear hb;go_wp2_with fail;refine(cR _ _).mono ?_
 rintro e w3 ⟨rfl,hb⟩;have B3:=q_ (B2.o.trans (hb.mono B2.o.size));have K3:=q_ (K2.o.below hb K2.o.lt);clear hb;go_wp2_with (refine aq rfl (.tmp 1) (.tmp 7) rfl w.heap.size (M.br (M.T (P.digits v0.num))) (by rfl) (by rfl) (K3.o) rfl ?_;intro w9 k9 g9;have K9:=q_ k9;have B9:=q_ (ai B3.o g9 (n_));clear k9 g9)
 (try simp only[Exit.inBlock,Exit.then]);exact bodyPost_ret (aT rfl K9.o rfl) rfl ⟨by rw[HE.o];rfl,B9.o⟩
theorem Up(a:List M.Val)(ab ga n c:Nat)(w:World)(hA:lC w ab ga n c a)(hk:3<=a.length):
 Calls Tryz.prog 217 #[.pointer (some ⟨ab,0,none⟩)] w fun e w'=>e=dD (.ok (M.br (M.sub (M.aY a 0).text (M.aY a 1).num (M.aY a 2).num)))/\Below w.heap.size w w':=by
 obtain⟨v0,e0,O0,C0⟩:=hA.arg 0 (by omega);obtain⟨v1,e1,O1,C1⟩:=hA.arg 1 (by omega);obtain⟨v2,e2,O2,C2⟩:=hA.arg 2 (by omega);have g0:(0<n)=True:=eq_true (by have:=hA.len;omega);have PX:((0:Int)<(n:Int))=True:=eq_true (by have:=hA.len;omega);have ZP:((1:Int)<(n:Int))=True:=eq_true (by have:=hA.len;omega);have gi2:((2:Int)<(n:Int))=True:=eq_true (by have:=hA.len;omega);have HE:=q_ (show(.ok (M.br (M.sub (M.aY a 0).text (M.aY a 1).num (M.aY a 2).num)):Except Int M.Val)= .ok (M.br (M.sub v0.text v1.num v2.num)) by rw[e0,e1,e2]);have HA:=q_ hA;have K1:=q_ (ar.new w 33 #[.int .i64 0,.string ⟨#[]⟩,.int .i64 0,.bool false]);have B1:=q_ ((Below.refl _ w).alloc (n_) (.cells #[.int .i64 0,.string ⟨#[]⟩,.int .i64 0,.bool false] 33));have z:=(HA.o.below B1.o).blk.cell;obtain⟨x0,y0⟩:=C0.o _ B1.o;obtain⟨x1,y1⟩:=C1.o _ B1.o;obtain⟨x2,y2⟩:=C2.o _ B1.o;clear hA e0 e1 e2;go_enter Tryz.func217,Tryz.ntmps217;go_wp2_with fail;clear z x0 y0 x1 y1 x2 y2;generalize w.alloc (.cells #[.int .i64 0,.string ⟨#[]⟩,.int .i64 0,.bool false] 33)=w1 at K1 B1⊢
 refine ak (KP:=fun _ _=>False) 14 [] (fL w1) (by kernel_rfl) (by kernel_rfl) (fL.start w1) (fun ch a2 w5 hd hk=>hk.elim) ?_
 iterate 14
  apply ae rfl
  ·intro L vs wx hI hR hL K hK
   first
   |have c0:=(HA.o.below (B1.o.trans (hI.mono B1.o.size))).blk.cell
    go_simp;exact hK _ hI
   |have c0:=(C0.o _ (B1.o.trans (hI.mono B1.o.size))).1
    go_simp;exact hK _ hI
   |have c0:=(C1.o _ (B1.o.trans (hI.mono B1.o.size))).2
    go_simp;exact hK _ hI
   |have c0:=(C2.o _ (B1.o.trans (hI.mono B1.o.size))).2
    go_simp;exact hK _ hI
   |go_simp
    exact(Di v0.text v1.num v2.num _ O0.o.text ⟨by have:=O1.o.lo;omega,by have:=O1.o.hi;omega⟩ ⟨by have:=O2.o.lo;omega,by have:=O2.o.hi;omega⟩).mono fun e w' ⟨h1,h2⟩=>⟨_,h1,hK _ (hI.trans (h2.mono hI.size))⟩
   |go_simp
    exact(cR _ _).mono fun e w' ⟨h1,h2⟩=>⟨_,h1,hK _ (hI.trans (h2.mono hI.size))⟩
  intro KK af;go_simp;refine af _ ?_;clear af KK
 refine aw ?_;intro vs w2 hI;have B2:=q_ (B1.o.trans (hI.mono B1.o.size));have K2:=q_ (K1.o.below hI K1.o.lt);clear hI;intro KK af;have kg:=fun a w h=>af .normal a w h;simp only[List.drop_succ_cons];refine aq rfl (.tmp 1) (.tmp 15) rfl w.heap.size (M.br (M.sub v0.text v1.num v2.num)) (by rfl) (by rfl) (K2.o) rfl ?_;intro w9 k9 g9;have K9:=q_ k9;have B9:=q_ (ai B2.o g9 (n_));clear k9 g9;go_wp2_with fail
 (try simp only[Exit.inBlock,Exit.then]);exact bodyPost_ret (aT rfl K9.o rfl) rfl ⟨by rw[HE.o];rfl,B9.o⟩
theorem Uq(a:List M.Val)(ab ga n c:Nat)(w:World)(hA:lC w ab ga n c a)(hk:2<=a.length)(mx:Int)(xt:0<w.heap.size)(hmx:w.cell? ⟨0,0,none⟩=some (.int .i64 mx)):
 Calls Tryz.prog 219 #[.pointer (some ⟨ab,0,none⟩)] w fun e w'=>e=dD (.ok (M.fx (M.find (M.aY a 0).text (M.aY a 1).text)))/\Below w.heap.size w w':=by
 obtain⟨v0,e0,O0,C0⟩:=hA.arg 0 (by omega);obtain⟨v1,e1,O1,C1⟩:=hA.arg 1 (by omega);have g0:(0<n)=True:=eq_true (by have:=hA.len;omega);have PX:((0:Int)<(n:Int))=True:=eq_true (by have:=hA.len;omega);have ZP:((1:Int)<(n:Int))=True:=eq_true (by have:=hA.len;omega);have HE:=q_ (show(.ok (M.fx (M.find (M.aY a 0).text (M.aY a 1).text)):Except Int M.Val)= .ok (M.fx (M.find v0.text v1.text)) by rw[e0,e1]);have HA:=q_ hA;have K1:=q_ (ar.new w 33 #[.int .i64 0,.string ⟨#[]⟩,.int .i64 0,.bool false]);have B1:=q_ ((Below.refl _ w).alloc (n_) (.cells #[.int .i64 0,.string ⟨#[]⟩,.int .i64 0,.bool false] 33));have MX:=q_ (fun(W:World) (h:Below w.heap.size w W)=>(h.cell (p:=⟨0,0,none⟩) xt).trans hmx);have M2:=q_ xt;have z:=(HA.o.below B1.o).blk.cell;obtain⟨x0,y0⟩:=C0.o _ B1.o;obtain⟨x1,y1⟩:=C1.o _ B1.o;clear hA e0 e1;go_enter Tryz.func219,Tryz.ntmps219;go_wp2_with fail;clear z x0 y0 x1 y1 xt hmx;generalize w.alloc (.cells #[.int .i64 0,.string ⟨#[]⟩,.int .i64 0,.bool false] 33)=w1 at K1 B1⊢;refine ak (KP:=fun _ _=>False) 10 [] (fL w1) (by kernel_rfl) (by kernel_rfl) (fL.start w1) (fun ch a2 w5 hd hk=>hk.elim) ?_
 iterate 10
  apply ae rfl
  ·intro L vs wx hI hR hL K hK
   first
   |have c0:=(HA.o.below (B1.o.trans (hI.mono B1.o.size))).blk.cell
    go_simp;exact hK _ hI
   |have c0:=(C0.o _ (B1.o.trans (hI.mono B1.o.size))).1
    go_simp;exact hK _ hI
   |have c0:=(C1.o _ (B1.o.trans (hI.mono B1.o.size))).1
    go_simp;exact hK _ hI
   |go_simp
    exact(AB v0.text v1.text mx _ O0.o.text (MX.o _ (B1.o.trans (hI.mono B1.o.size)))).mono fun e w' ⟨h1,h2⟩=>⟨_,h1,hK _ (hI.trans (h2.mono hI.size))⟩
   |go_simp
    exact(iG _ _).mono fun e w' ⟨h1,h2⟩=>⟨_,h1,hK _ (hI.trans (h2.mono hI.size))⟩
  intro KK af;go_simp;refine af _ ?_;clear af KK
 refine aw ?_;intro vs w2 hI;have B2:=q_ (B1.o.trans (hI.mono B1.o.size));have K2:=q_ (K1.o.below hI K1.o.lt);clear hI;intro KK af;have kg:=fun a w h=>af .normal a w h;simp only[List.drop_succ_cons];refine aq rfl (.tmp 1) (.tmp 11) rfl w.heap.size (M.fx (M.find v0.text v1.text)) (by rfl) (by rfl) (K2.o) rfl ?_;intro w9 k9 g9;have K9:=q_ k9;have B9:=q_ (ai B2.o g9 (n_));clear k9 g9;go_wp2_with fail
 (try simp only[Exit.inBlock,Exit.then]);exact bodyPost_ret (aT rfl K9.o rfl) rfl ⟨by rw[HE.o];rfl,B9.o⟩
theorem Ur(a:List M.Val)(ab ga n c:Nat)(w:World)(hA:lC w ab ga n c a)(hk:3<=a.length)(mx:Int)(xt:0<w.heap.size)(hmx:w.cell? ⟨0,0,none⟩=some (.int .i64 mx)):
 Calls Tryz.prog 221 #[.pointer (some ⟨ab,0,none⟩)] w fun e w'=>e=dD (M.told (M.replace (M.aY a 0).text (M.aY a 1).text (M.aY a 2).text))/\Below w.heap.size w w':=by
 obtain⟨v0,e0,O0,C0⟩:=hA.arg 0 (by omega);obtain⟨v1,e1,O1,C1⟩:=hA.arg 1 (by omega);obtain⟨v2,e2,O2,C2⟩:=hA.arg 2 (by omega);have g0:(0<n)=True:=eq_true (by have:=hA.len;omega);have PX:((0:Int)<(n:Int))=True:=eq_true (by have:=hA.len;omega);have ZP:((1:Int)<(n:Int))=True:=eq_true (by have:=hA.len;omega);have gi2:((2:Int)<(n:Int))=True:=eq_true (by have:=hA.len;omega);have HE:=q_ (show(M.told (M.replace (M.aY a 0).text (M.aY a 1).text (M.aY a 2).text):Except Int M.Val)=M.told (M.replace v0.text v1.text v2.text) by rw[e0,e1,e2]);have HA:=q_ hA;have K1:=q_ (ar.new w 33 #[.int .i64 0,.string ⟨#[]⟩,.int .i64 0,.bool false]);have B1:=q_ ((Below.refl _ w).alloc (n_) (.cells #[.int .i64 0,.string ⟨#[]⟩,.int .i64 0,.bool false] 33));have MX:=q_ (fun(W:World) (h:Below w.heap.size w W)=>(h.cell (p:=⟨0,0,none⟩) xt).trans hmx);have M2:=q_ xt;have z:=(HA.o.below B1.o).blk.cell;obtain⟨x0,y0⟩:=C0.o _ B1.o;obtain⟨x1,y1⟩:=C1.o _ B1.o;obtain⟨x2,y2⟩:=C2.o _ B1.o;clear hA e0 e1 e2;go_enter Tryz.func221,Tryz.ntmps221;go_wp2_with fail;clear z x0 y0 x1 y1 x2 y2 xt hmx
 generalize w.alloc (.cells #[.int .i64 0,.string ⟨#[]⟩,.int .i64 0,.bool false] 33)=w1 at K1 B1⊢;have KC:=q_ (fun(W:World) (h:Below w.heap.size w W)=>D8 v0.text v1.text v2.text mx W O0.o.text O1.o.text O2.o.text (l_ M2.o h.size) (MX.o W h));have KT:=q_ (fun k (h:M.replace v0.text v1.text v2.text= .error k)=>mn h);cases hr:M.replace v0.text v1.text v2.text with
 |error k=>
  have HK:=q_ (KT.o k hr);rw[hr] at KC HE;rw[yP] at KC;clear hr KT;refine ak (KP:=fun ch w5=>dt k= .panicked ch/\Below w.heap.size w w5) 16 [] (cN w1 15) (by kernel_rfl) (by kernel_rfl) (cN.start w1 15) (fun ch a2 w5 hd hk=>⟨hd,by rw[HE.o];exact hk.1.symm,hk.2⟩) ?_
  iterate 15
   apply ae rfl
   ·intro L vs wx hI hR hL K hK
    first
    |have c0:=(HA.o.below (B1.o.trans (hI.below.mono B1.o.size))).blk.cell
     go_simp;exact hK _ (hI.pure (by decide))
    |have c0:=(C0.o _ (B1.o.trans (hI.below.mono B1.o.size))).1
     go_simp;exact hK _ (hI.pure (by decide))
    |have c0:=(C1.o _ (B1.o.trans (hI.below.mono B1.o.size))).1
     go_simp;exact hK _ (hI.pure (by decide))
    |have c0:=(C2.o _ (B1.o.trans (hI.below.mono B1.o.size))).1
     go_simp;exact hK _ (hI.pure (by decide))
    |go_simp
     exact(KC.o _ (B1.o.trans (hI.below.mono B1.o.size))).mono fun e w' ⟨h1,h2⟩=> .inl ⟨_,h1,hK _ (hI.on h2 (by decide))⟩
   intro KK af;go_simp;refine af _ ?_;clear af KK
  refine ae (v:=undef) rfl ?_ ?_
  ·intro L vs wx hI hR hL K hK
   go_simp;exact(pQ (.error k) ⟨#[]⟩ k (.inr ⟨rfl,HK.o⟩) wx).mono fun e w' ⟨he,hb⟩=> .inr ⟨_,he,rfl,(B1.o.trans (hI.below.mono B1.o.size)).trans (hb.mono (t_ B1.o.size hI.below.size))⟩
  intro KK af;go_simp;refine af _ ?_;clear af KK;refine aw ?_;intro vs w5 hI;exact absurd hI.no (by decide)
 |ok t=>
  rw[hr] at KC HE;rw[Ea] at KC;clear hr KT;refine ak (KP:=fun _ _=>False) 16 [] (fL w1) (by kernel_rfl) (by kernel_rfl) (fL.start w1) (fun ch a2 w5 hd hk=>hk.elim) ?_
  iterate 16
   apply ae rfl
   ·intro L vs wx hI hR hL K hK
    first
    |have c0:=(HA.o.below (B1.o.trans (hI.mono B1.o.size))).blk.cell
     go_simp;exact hK _ hI
    |have c0:=(C0.o _ (B1.o.trans (hI.mono B1.o.size))).1
     go_simp;exact hK _ hI
    |have c0:=(C1.o _ (B1.o.trans (hI.mono B1.o.size))).1
     go_simp;exact hK _ hI
    |have c0:=(C2.o _ (B1.o.trans (hI.mono B1.o.size))).1
     go_simp;exact hK _ hI
    |go_simp
     exact(KC.o _ (B1.o.trans (hI.mono B1.o.size))).mono fun e w' ⟨h1,h2⟩=>⟨_,h1,hK _ (hI.trans (h2.mono hI.size))⟩
    |go_simp
     exact(pQ (.ok t) t 0 (.inl ⟨rfl,rfl⟩) _).mono fun e w' ⟨h1,h2⟩=>⟨_,h1,hK _ (hI.trans (h2.mono hI.size))⟩
   intro KK af;go_simp;refine af _ ?_;clear af KK
  refine aw ?_;intro vs w2 hI;have B2:=q_ (B1.o.trans (hI.mono B1.o.size));have K2:=q_ (K1.o.below hI K1.o.lt);clear hI;intro KK af;have kg:=fun a w h=>af .normal a w h;simp only[List.drop_succ_cons];refine aq rfl (.tmp 1) (.tmp 17) rfl w.heap.size (M.br t) (by rfl) (by rfl) (K2.o) rfl ?_;intro w9 k9 g9;have K9:=q_ k9;have B9:=q_ (ai B2.o g9 (n_));clear k9 g9;go_wp2_with fail
  (try simp only[Exit.inBlock,Exit.then]);exact bodyPost_ret (aT rfl K9.o rfl) rfl ⟨by rw[HE.o];rfl,B9.o⟩
theorem Us(a:List M.Val)(ab ga n c:Nat)(w:World)(hA:lC w ab ga n c a)(hk:3<=a.length):
 Calls Tryz.prog 224 #[.pointer (some ⟨ab,0,none⟩)] w fun e w'=>e=dD (M.told (M.pad (M.aY a 0).text (M.aY a 1).num (M.aY a 2).text))/\Below w.heap.size w w':=by
 obtain⟨v0,e0,O0,C0⟩:=hA.arg 0 (by omega);obtain⟨v1,e1,O1,C1⟩:=hA.arg 1 (by omega);obtain⟨v2,e2,O2,C2⟩:=hA.arg 2 (by omega);have g0:(0<n)=True:=eq_true (by have:=hA.len;omega);have PX:((0:Int)<(n:Int))=True:=eq_true (by have:=hA.len;omega);have ZP:((1:Int)<(n:Int))=True:=eq_true (by have:=hA.len;omega);have gi2:((2:Int)<(n:Int))=True:=eq_true (by have:=hA.len;omega);have HE:=q_ (show(M.told (M.pad (M.aY a 0).text (M.aY a 1).num (M.aY a 2).text):Except Int M.Val)=M.told (M.pad v0.text v1.num v2.text) by rw[e0,e1,e2]);have HA:=q_ hA;have K1:=q_ (ar.new w 33 #[.int .i64 0,.string ⟨#[]⟩,.int .i64 0,.bool false]);have B1:=q_ ((Below.refl _ w).alloc (n_) (.cells #[.int .i64 0,.string ⟨#[]⟩,.int .i64 0,.bool false] 33));have z:=(HA.o.below B1.o).blk.cell;obtain⟨x0,y0⟩:=C0.o _ B1.o;obtain⟨x1,y1⟩:=C1.o _ B1.o;obtain⟨x2,y2⟩:=C2.o _ B1.o;clear hA e0 e1 e2;go_enter Tryz.func224,Tryz.ntmps224;go_wp2_with fail;clear z x0 y0 x1 y1 x2 y2;generalize w.alloc (.cells #[.int .i64 0,.string ⟨#[]⟩,.int .i64 0,.bool false] 33)=w1 at K1 B1⊢
 have KC:=q_ (fun(W:World) (h:Below w.heap.size w W)=>TH v0.text v2.text v1.num W O0.o.text O2.o.text ⟨by have:=O1.o.lo;omega,by have:=O1.o.hi;omega⟩);have KT:=q_ (fun k (h:M.pad v0.text v1.num v2.text= .error k)=>Bc h);cases hr:M.pad v0.text v1.num v2.text with
 |error k=>
  have HK:=q_ (KT.o k hr);rw[hr] at KC HE;rw[yP] at KC;clear hr KT;refine ak (KP:=fun ch w5=>dt k= .panicked ch/\Below w.heap.size w w5) 16 [] (cN w1 15) (by kernel_rfl) (by kernel_rfl) (cN.start w1 15) (fun ch a2 w5 hd hk=>⟨hd,by rw[HE.o];exact hk.1.symm,hk.2⟩) ?_
  iterate 15
   apply ae rfl
   ·intro L vs wx hI hR hL K hK
    first
    |have c0:=(HA.o.below (B1.o.trans (hI.below.mono B1.o.size))).blk.cell
     go_simp;exact hK _ (hI.pure (by decide))
    |have c0:=(C0.o _ (B1.o.trans (hI.below.mono B1.o.size))).1
     go_simp;exact hK _ (hI.pure (by decide))
    |have c0:=(C1.o _ (B1.o.trans (hI.below.mono B1.o.size))).2
     go_simp;exact hK _ (hI.pure (by decide))
    |have c0:=(C2.o _ (B1.o.trans (hI.below.mono B1.o.size))).1
     go_simp;exact hK _ (hI.pure (by decide))
    |go_simp
     exact(KC.o _ (B1.o.trans (hI.below.mono B1.o.size))).mono fun e w' ⟨h1,h2⟩=> .inl ⟨_,h1,hK _ (hI.on h2 (by decide))⟩
   intro KK af;go_simp;refine af _ ?_;clear af KK
  refine ae (v:=undef) rfl ?_ ?_
  ·intro L vs wx hI hR hL K hK
   go_simp;exact(pQ (.error k) ⟨#[]⟩ k (.inr ⟨rfl,HK.o⟩) wx).mono fun e w' ⟨he,hb⟩=> .inr ⟨_,he,rfl,(B1.o.trans (hI.below.mono B1.o.size)).trans (hb.mono (t_ B1.o.size hI.below.size))⟩
  intro KK af;go_simp;refine af _ ?_;clear af KK;refine aw ?_;intro vs w5 hI;exact absurd hI.no (by decide)
 |ok t=>
  rw[hr] at KC HE;rw[Ea] at KC;clear hr KT;refine ak (KP:=fun _ _=>False) 16 [] (fL w1) (by kernel_rfl) (by kernel_rfl) (fL.start w1) (fun ch a2 w5 hd hk=>hk.elim) ?_
  iterate 16
   apply ae rfl
   ·intro L vs wx hI hR hL K hK
    first
    |have c0:=(HA.o.below (B1.o.trans (hI.mono B1.o.size))).blk.cell
     go_simp;exact hK _ hI
    |have c0:=(C0.o _ (B1.o.trans (hI.mono B1.o.size))).1
     go_simp;exact hK _ hI
    |have c0:=(C1.o _ (B1.o.trans (hI.mono B1.o.size))).2
     go_simp;exact hK _ hI
    |have c0:=(C2.o _ (B1.o.trans (hI.mono B1.o.size))).1
     go_simp;exact hK _ hI
    |go_simp
     exact(KC.o _ (B1.o.trans (hI.mono B1.o.size))).mono fun e w' ⟨h1,h2⟩=>⟨_,h1,hK _ (hI.trans (h2.mono hI.size))⟩
    |go_simp
     exact(pQ (.ok t) t 0 (.inl ⟨rfl,rfl⟩) _).mono fun e w' ⟨h1,h2⟩=>⟨_,h1,hK _ (hI.trans (h2.mono hI.size))⟩
   intro KK af;go_simp;refine af _ ?_;clear af KK
  refine aw ?_;intro vs w2 hI;have B2:=q_ (B1.o.trans (hI.mono B1.o.size));have K2:=q_ (K1.o.below hI K1.o.lt);clear hI;intro KK af;have kg:=fun a w h=>af .normal a w h;simp only[List.drop_succ_cons];refine aq rfl (.tmp 1) (.tmp 17) rfl w.heap.size (M.br t) (by rfl) (by rfl) (K2.o) rfl ?_;intro w9 k9 g9;have K9:=q_ k9;have B9:=q_ (ai B2.o g9 (n_));clear k9 g9;go_wp2_with fail
  (try simp only[Exit.inBlock,Exit.then]);exact bodyPost_ret (aT rfl K9.o rfl) rfl ⟨by rw[HE.o];rfl,B9.o⟩
end
end Go.Proofs.YtpohlhkgbmdieaaGreatDoor
