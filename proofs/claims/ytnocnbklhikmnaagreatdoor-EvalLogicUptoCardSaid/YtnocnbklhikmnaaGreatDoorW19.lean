/- Part 19 of the proof. -/
import Derived.Test.YtnocnbklhikmnaaGreatDoorW11
import Derived.RangeFuncRecord
import Derived.OrdersIn
import Derived.TacticsIn
import Derived.LoopNIn
import Derived.Lib.Join
import Derived.Below
import Derived.RecoverIn
set_option linter.unusedVariables false
set_option maxRecDepth 1000000
set_option maxHeartbeats 16000000
namespace Go.Proofs.YtnocnbklhikmnaaGreatDoor.Tell
variable{K:Value->World->Prop}{P:Program}{a:Act}{o:Oper}{ops:Array Oper}{t:TypeId}{w w':World}
open Go Go.RowKit Go.Proofs.YtnocnbklhikmnaaGreatDoor Go.Proofs.YtnocnbklhikmnaaGreatDoor.Rk
theorem stepF_run{v:Value}(hg:o.guard=none)(hr:(execOp a.eval o).run P w= .ok (.value v) w')(hK:K v w'):stepF P ops o a w K:=by
 unfold stepF;have hw:Region.wanted o (yielded ops a.tmps)=true:=by simp[Region.wanted,hg]
 rw[if_pos hw,hr];exact hK
theorem stepF_skip(hg:o.guard=none)(hr:(execOp a.eval o).run P w= .ok .skip w')(hK:K undef w'):stepF P ops o a w K:=by
 unfold stepF;have hw:Region.wanted o (yielded ops a.tmps)=true:=by simp[Region.wanted,hg]
 rw[if_pos hw,hr];exact hK
def msh:ByteArray:=⟨#[77,83,72]⟩
def placeV(n:Int):Value:= .agg #[.string msh,.int .i64 0,.int .i64 n,.int .i64 0,.int .i64 0,.int .i64 0]
def placeA(n:Int):AV:= .agg [.str [77,83,72],.int .i64 0,.int .i64 n,.int .i64 0,.int .i64 0,.int .i64 0]
theorem place_ok(n:Int):VR (fun _=>none) (placeA n) (placeV n):= .agg _ _ (.cons _ _ _ _ (.str [77,83,72] (by decide)) (.cons _ _ _ _ (.int _ _) (.cons _ _ _ _ (.int _ _) (.cons _ _ _ _ (.int _ _) (.cons _ _ _ _ (.int _ _) (.cons _ _ _ _ (.int _ _) .nil))))))
theorem put_run{kt et:TypeId}{d:TypeDesc}{b clock:Nat}{l:Array MapEntry}{es:List ME}{k:AV}{k' x':Value}(hu:P.underlying t=some (.map kt et))(hd:P.underlying kt=some d)(hk:keyOk P kt d k=true)(hkk:VR (fun _=>none) k k')(hb:w.heap[b]? =some (.map l clock))(hm:MR (fun _=>none) es l.toList)(hf:findK k es 0=some none):
 (Instr.mapUpdate t (.map (some b)) k' x').run P w= .ok () {w with heap:=w.heap.setIfInBounds b (.map (l.push {key:=k',val:=x',born:=clock}) (clock+1))}:=by
 rcases findK_ok hd hk hkk w 0 hm hf with⟨_,h3⟩|⟨j',v',e',h2,_⟩
 ·unfold Instr.mapUpdate
  rw[Sem.run_bind,run_underlying hu];simp only[Result.andThen_ok,Sem.run_bind,MapKept.run_getObj_map hb,run_ck hd hk hkk,run_fk hd h3,setObj_run hb]
 ·cases h2
def ent(n:Int)(k:Nat):MapEntry:={key:=placeV n,val:= .agg #[],born:=k}
structure SealI(W:World)(L:Nat->Bool)(vs:Nat->Value)(w:World):Prop where
 os:w.os=W.os
 tape:w.tape=W.tape
 output:w.output=W.output
 no:L 0=false->w.heap=W.heap
 yes:L 0=true->∃l c,w.heap=W.heap.push (.map l c)/\(L 3=false->L 6=false->l=#[]/\c=0)/\(L 3=true->L 6=false->l=#[ent 1 0]/\c=1)/\(L 3=false->L 6=true->l=#[ent 2 0]/\c=1)/\(L 3=true->L 6=true->c=2/\(l=#[ent 1 0,ent 2 1]\/l=#[ent 2 0,ent 1 1]))
theorem SealI.pure{W:World}{L:Nat->Bool}{vs vs':Nat->Value}(h:SealI W L vs w){i:Nat}(h0:i≠0)(h3:i≠3)(h6:i≠6):SealI W (upd L i) vs' w:=by
 refine⟨h.os,h.tape,h.output,?_,?_⟩<;>simp only[updN (Ne.symm h0),updN (Ne.symm h3),updN (Ne.symm h6)]
 ·exact h.no
 ·exact h.yes
theorem mr1(n:Int)(k:Nat):MR (fun _=>none) [⟨placeA n,.agg [],k⟩] [ent n k]:=MR.nil.cons (place_ok n) (.agg _ _ .nil) rfl
theorem push_set{wx:World}{x:Obj}(o:Obj)(n:Nat)(hn:n=w.heap.size)(hh:wx.heap=w.heap.push x):wx.heap.setIfInBounds n o=w.heap.push o:=by
 rw[hh,hn];apply Array.ext_getElem?;intro i;rw[Array.getElem?_setIfInBounds,Array.getElem?_push,Array.getElem?_push];by_cases hi:w.heap.size=i
 ·subst hi
  simp
 ·simp[hi,Ne.symm hi]
theorem ins_skip{m k x:Operand}(hr:(Instr.mapUpdate t (a.eval m) (a.eval k) (a.eval x)).run P w= .ok () w')(ho:o.op= .insert t m k x):(execOp a.eval o).run P w= .ok .skip w':=by
 unfold execOp;rw[ho];simp only[Sem.run_bind,hr,Result.andThen_ok,Sem.run_pure]
theorem sealed_any(w:World):Calls Tryz.prog 274 #[] w fun e w'=>e= .returned (.map (some w.heap.size))/\∃l,Add w w' (.map l 2)/\(l=#[ent 1 0,ent 2 1]\/l=#[ent 2 0,ent 1 1]):=by
 go_enter Tryz.func274,Tryz.ntmps274;go_wp2_with fail;have hk1:keyOk Tryz.prog 135 (.struct (Tryz.prog.fieldsOf 135)) (placeA 1)=true:=by kernel_rfl
 have hk2:keyOk Tryz.prog 135 (.struct (Tryz.prog.fieldsOf 135)) (placeA 2)=true:=by kernel_rfl
 have hd:Tryz.prog.underlying 135=some (.struct (Tryz.prog.fieldsOf 135)):=by kernel_rfl
 have hu:Tryz.prog.underlying 306=some (.map 135 304):=by kernel_rfl
 refine wp_region_genC 7 [] (SealI w) (by kernel_rfl) (by kernel_rfl) ⟨rfl,rfl,rfl,fun _=>rfl,fun h=>(by cases h)⟩ ?_;refine wpGenC_pure (v:= .map (some w.heap.size)) rfl ?_ ?_
 ·intro L vs wx hI hCl hR hL K hK
  have hh:=hI.no hL;have l3:L 3=false:=hCl.off hL (by kernel_rfl);have l6:L 6=false:=hCl.off hL (by kernel_rfl);refine stepF_run rfl (w':={wx with heap:=wx.heap.push (.map #[] 0)}) (by rw[<-hh];rfl) (hK _ ⟨hI.os,hI.tape,hI.output,fun h=>(by rw[updS] at h;cases h),fun _=>⟨#[],0,(by show wx.heap.push _=_;rw[hh]),?_⟩⟩);simp only[updN (show(3:Nat)≠0 by decide),updN (show(6:Nat)≠0 by decide),l3,l6];simp
 intro KK hKK;go_simp;refine hKK _ ?_;refine wpGenC_pure (v:=placeV 1) rfl (fun L vs wx hI hCl hR hL K hK=>stepF_run rfl (by kernel_rfl) (hK _ (hI.pure (by decide) (by decide) (by decide)))) ?_;intro KK hKK;go_simp;refine hKK _ ?_;refine wpGenC_pure (v:= .agg #[]) rfl (fun L vs wx hI hCl hR hL K hK=>stepF_run rfl (by kernel_rfl) (hK _ (hI.pure (by decide) (by decide) (by decide)))) ?_;intro KK hKK;go_simp;refine hKK _ ?_;refine wpGenC_pure (v:=undef) rfl ?_ ?_
 ·intro L vs wx hI hCl hR hL K hK
  have l0:L 0=true:=hR 0 (by kernel_rfl);obtain⟨l,c,hh,y1,y2,y3,y4⟩:=hI.yes l0;have hb:wx.heap[w.heap.size]? =some (.map l c):=by rw[hh];simp
  have hset:∀o,wx.heap.setIfInBounds w.heap.size o=w.heap.push o:=fun o=>push_set _ _ rfl hh;cases h6:L 6 with
  |false=>
   obtain⟨rfl,rfl⟩:=y1 hL h6;have hr:=put_run (x':= .agg #[]) hu hd hk1 (place_ok 1) hb .nil rfl;refine stepF_skip rfl (w':={wx with heap:=wx.heap.setIfInBounds w.heap.size (.map #[ent 1 0] 1)}) ?_ (hK _ ⟨hI.os,hI.tape,hI.output,fun h=>(by rw[updN (by decide)] at h;rw[l0] at h;cases h),fun _=>⟨#[ent 1 0],1,hset _,?_⟩⟩)
   ·exact ins_skip (m:= .tmp 1) hr rfl
   ·simp only[updS,updN (show(6:Nat)≠3 by decide),h6]
    simp
  |true=>
   obtain⟨rfl,rfl⟩:=y3 hL h6;have hr:=put_run (x':= .agg #[]) hu hd hk1 (place_ok 1) hb (mr1 2 0) (by kernel_rfl);refine stepF_skip rfl (w':={wx with heap:=wx.heap.setIfInBounds w.heap.size (.map #[ent 2 0,ent 1 1] 2)}) ?_ (hK _ ⟨hI.os,hI.tape,hI.output,fun h=>(by rw[updN (by decide)] at h;rw[l0] at h;cases h),fun _=>⟨#[ent 2 0,ent 1 1],2,hset _,?_⟩⟩)
   ·exact ins_skip (m:= .tmp 1) hr rfl
   ·simp only[updS,updN (show(6:Nat)≠3 by decide),h6]
    simp
 intro KK hKK;go_simp;refine hKK _ ?_;refine wpGenC_pure (v:=placeV 2) rfl (fun L vs wx hI hCl hR hL K hK=>stepF_run rfl (by kernel_rfl) (hK _ (hI.pure (by decide) (by decide) (by decide)))) ?_;intro KK hKK;go_simp;refine hKK _ ?_;refine wpGenC_pure (v:= .agg #[]) rfl (fun L vs wx hI hCl hR hL K hK=>stepF_run rfl (by kernel_rfl) (hK _ (hI.pure (by decide) (by decide) (by decide)))) ?_;intro KK hKK;go_simp;refine hKK _ ?_;refine wpGenC_pure (v:=undef) rfl ?_ ?_
 ·intro L vs wx hI hCl hR hL K hK
  have l0:L 0=true:=hR 0 (by kernel_rfl);obtain⟨l,c,hh,y1,y2,y3,y4⟩:=hI.yes l0;have hb:wx.heap[w.heap.size]? =some (.map l c):=by rw[hh];simp
  have hset:∀o,wx.heap.setIfInBounds w.heap.size o=w.heap.push o:=fun o=>push_set _ _ rfl hh;cases h3:L 3 with
  |false=>
   obtain⟨rfl,rfl⟩:=y1 h3 hL;have hr:=put_run (x':= .agg #[]) hu hd hk2 (place_ok 2) hb .nil rfl;refine stepF_skip rfl (w':={wx with heap:=wx.heap.setIfInBounds w.heap.size (.map #[ent 2 0] 1)}) ?_ (hK _ ⟨hI.os,hI.tape,hI.output,fun h=>(by rw[updN (by decide)] at h;rw[l0] at h;cases h),fun _=>⟨#[ent 2 0],1,hset _,?_⟩⟩)
   ·exact ins_skip (m:= .tmp 1) hr rfl
   ·simp only[updS,updN (show(3:Nat)≠6 by decide),h3]
    simp
  |true=>
   obtain⟨rfl,rfl⟩:=y2 h3 hL;have hr:=put_run (x':= .agg #[]) hu hd hk2 (place_ok 2) hb (mr1 1 0) (by kernel_rfl);refine stepF_skip rfl (w':={wx with heap:=wx.heap.setIfInBounds w.heap.size (.map #[ent 1 0,ent 2 1] 2)}) ?_ (hK _ ⟨hI.os,hI.tape,hI.output,fun h=>(by rw[updN (by decide)] at h;rw[l0] at h;cases h),fun _=>⟨#[ent 1 0,ent 2 1],2,hset _,?_⟩⟩)
   ·exact ins_skip (m:= .tmp 1) hr rfl
   ·simp only[updS,updN (show(3:Nat)≠6 by decide),h3]
    simp
 intro KK hKK;go_simp;refine hKK _ ?_;refine wpGenC_nil ?_;intro vs wx hI;obtain⟨l,c,hh,_,_,_,y4⟩:=hI.yes rfl;obtain⟨rfl,hl⟩:=y4 rfl rfl;have hA:Add w wx (.map l 2):=⟨hI.os,hI.tape,hI.output,by rw[hh];simp,by rw[hh];simp,fun B hB=>by rw[hh,Array.getElem?_push_lt hB,Array.getElem?_eq_getElem hB]⟩
 intro K2 hK2;go_wp2;go_ret;exact⟨rfl,l,hA,hl⟩
end Go.Proofs.YtnocnbklhikmnaaGreatDoor.Tell
namespace Go.Proofs.YtnocnbklhikmnaaGreatDoor
variable{Q:Exit->Act->World->Prop}{a:Act}{mb:Nat}{o:Oper}{ops:Array Oper}{rest:List Oper}{w w':World}
section
open Go Go.RowKit Go.BigFrame
def SaysB(e:Ending):Prop:=∃b,e= .returned (.bool b)
theorem light_any(d:M.Delims)(A:Option Addr)(c:Nat)(l:List M.Seg)(S:Nat->Prop)(w:World)(hS:∀b,S b->b<w.heap.size)(hok:SOk A l.length c)(hl:LAt ESeg w S A l.length l):
 Calls Tryz.prog 4 #[.agg #[.int .u8 (d.f.toNat:Int),.int .u8 (d.c.toNat:Int),.int .u8 (d.r.toNat:Int),.int .u8 (d.e.toNat:Int),.int .u8 (d.s.toNat:Int),.slice A l.length c]] w fun e w'=>SaysB e/\Below w.heap.size w w':=by
 have hm:=hok.le;have hb:=(Below.refl w.heap.size w).alloc (n_) (.cells #[.int .u8 (d.f.toNat:Int),.int .u8 (d.c.toNat:Int),.int .u8 (d.r.toNat:Int),.int .u8 (d.e.toNat:Int),.int .u8 (d.s.toNat:Int),.slice A l.length c] 26);have e0:=(Blk.new w 26 #[.int .u8 (d.f.toNat:Int),.int .u8 (d.c.toNat:Int),.int .u8 (d.r.toNat:Int),.int .u8 (d.e.toNat:Int),.int .u8 (d.s.toNat:Int),.slice A l.length c]).cell;have HL0:=q_ (hl.below hb hS);have HB:=q_ hb;obtain⟨w1,hw1⟩:∃w1,w1=w.alloc (.cells #[.int .u8 (d.f.toNat:Int),.int .u8 (d.c.toNat:Int),.int .u8 (d.r.toNat:Int),.int .u8 (d.e.toNat:Int),.int .u8 (d.s.toNat:Int),.slice A l.length c] 26):=⟨_,rfl⟩
 rw[<-hw1] at HL0 HB e0;have HW:=q_ hw1;generalize l.length=m at*;clear hl hb hok hS hw1;go_enter Tryz.func4,Tryz.ntmps4;go_wp2_with fail;rw[<-HW.o];clear HW;go_loopw [3,4] (fun n i wr=>∃(z:Int) (k:Nat),n= .int .i64 z/\i= .int .i64 k/\k<=m/\wr=w1) (fun _ i _=>m-(intOf i).toNat)
 case atStart=>exact⟨0,0,rfl,rfl,by omega,rfl⟩
 case round=>
  obtain⟨z,k,rfl,rfl,hk,rfl⟩:=hrel;by_cases hlt:k<m
  ·by_cases hz:z<=6000
   ·obtain⟨ad,x,u,v,rfl,hb,hx,hr,hc1,hc2⟩:=HL0.o.in2 rfl hlt
    obtain⟨A1,c1,e1,hns,hok1,hl1⟩:=ESeg.inv hr;injection e1 with e1 e2;injection e2 with e2 _;subst e1 e2;have hm1:=hok1.le;have HL1:=q_ hl1;clear hx hr hl1 hok1 hns;generalize x.fields=fs at*;generalize fs.length=m1 at*;go_wp2_with fail;go_loopw [3,5] (fun n i wr2=>∃(z:Int) (q:Nat),n= .int .i64 z/\i= .int .i64 q/\q<=m1/\wr2=wr) (fun _ i _=>m1-(intOf i).toNat)
    case atStart=>exact⟨_,0,rfl,rfl,by omega,rfl⟩
    case round=>
     obtain⟨z1,q,rfl,rfl,hq,rfl⟩:=hrel;by_cases hlt1:q<m1
     ·skip
      obtain⟨ad1,f1,u1,rfl,hb1,hx1,hr1,hcell1⟩:=HL1.o.in1 rfl hlt1;obtain⟨A2,c2,rfl,hok2,hl2⟩:=Enc.list_inv hr1;have hm2:=hok2.le;have HL2:=q_ hl2;clear hx1 hr1 hl2 hok2;generalize f1.length=m2 at*;go_wp2_with fail;go_loopw [3,6] (fun n i wr2=>∃(z:Int) (o:Nat),n= .int .i64 z/\i= .int .i64 o/\o<=m2/\wr2=wr) (fun _ i _=>m2-(intOf i).toNat)
      case atStart=>exact⟨_,0,rfl,rfl,by omega,rfl⟩
      case round=>
       obtain⟨z2,o,rfl,rfl,ho,rfl⟩:=hrel;by_cases hlt2:o<m2
       ·skip
        obtain⟨ad2,f2,u2,rfl,hb2,hx2,hr2,hcell2⟩:=HL2.o.in1 rfl hlt2;obtain⟨A3,c3,rfl,hok3,hl3⟩:=Enc.list_inv hr2;have hm3:=hok3.le;have HL3:=q_ hl3;clear hx2 hr2 hl3 hok3;generalize f2.length=m3 at*;go_wp2_with fail;go_loopw [3,7] (fun n i wr2=>∃(z:Int) (y:Nat),n= .int .i64 z/\i= .int .i64 y/\y<=m3/\wr2=wr) (fun _ i _=>m3-(intOf i).toNat)
        case atStart=>exact⟨_,0,rfl,rfl,by omega,rfl⟩
        case round=>
         obtain⟨z3,y,rfl,rfl,hy,rfl⟩:=hrel;by_cases hlt3:y<m3
         ·skip
          obtain⟨ad3,f3,u3,rfl,hb3,hx3,hr3,hcell3⟩:=HL3.o.in1 rfl hlt3;obtain⟨A4,c4,rfl,hok4,hl4⟩:=Enc.list_inv hr3;have hm4:=hok4.le;clear hx3 hr3 hl4 hok4;generalize f3.length=m4 at*;go_wp2_with fail;go_roundw
          case rel=>exact⟨_,y+1,rfl,by go_num,by omega,by trivial⟩
          case measure=>simp[intOf];omega
         ·go_wp2_with fail
          go_roundw
          case rel=>exact⟨_,o+1,rfl,by go_num,by omega,by trivial⟩
          case measure=>simp[intOf];omega
       ·go_wp2_with fail
        go_roundw
        case rel=>exact⟨_,q+1,rfl,by go_num,by omega,by trivial⟩
        case measure=>simp[intOf];omega
     ·go_wp2_with fail
      go_roundw
      case rel=>exact⟨_,k+1,rfl,by go_num,by omega,by trivial⟩
      case measure=>simp[intOf];omega
   ·go_wp2_with fail
    go_ret;exact⟨⟨_,rfl⟩,HB.o⟩
  ·go_wp2_with fail
   go_ret;exact⟨⟨_,rfl⟩,HB.o⟩
end
section
open Go Go.RowKit Go.BigFrame Go.Maps Go.WideMaps
abbrev FnQ:=Array Value×Int×Int×Bool
def FnV(w:World)(mb:Nat)(v:Value)(q:FnQ):Prop:=∃A,v= .agg #[.slice A q.1.size q.1.size,.int .i64 q.2.1,.int .i64 q.2.2.1,.bool q.2.2.2]/\((A=none/\q.1=#[])\/∃b,A=some ⟨b,0,none⟩/\mb<b/\Blk w b 3 q.1)
abbrev MapF(w:World)(b:Nat)(F:ByteArray->Option Value):Prop:=MapT Tryz.prog 9 Value.string w b F
def FnsAt(w:World)(mb:Nat)(lst:List (ByteArray×FnQ)):Prop:=∃F,MapF w mb F/\∀y,match M.look y lst with
 |some q=>∃v,F y=some v/\FnV w mb v q
 |none=>F y=none
theorem FnV.keep{v:Value}{q:FnQ}(h:FnV w mb v q)(hb:∀b,mb<b->b<w.heap.size->w'.heap[b]? =w.heap[b]?):FnV w' mb v q:=by
 obtain⟨A,e,h2⟩:=h;refine⟨A,e,h2.imp id ?_⟩;rintro⟨b,e,h3,h4⟩;exact⟨b,e,h3,(hb b h3 h4.lt).trans h4⟩
theorem FnsAt.keep{lst:List (ByteArray×FnQ)}(h:FnsAt w mb lst)(hb:∀b,mb<=b->b<w.heap.size->w'.heap[b]? =w.heap[b]?):FnsAt w' mb lst:=by
 obtain⟨F,h1,h2⟩:=h;refine⟨F,h1.keep (hb mb (n_) h1.lt),fun y=> ?_⟩;have:=h2 y;split at this
 ·obtain⟨v,hv,hq⟩:=this
  exact⟨v,hv,hq.keep (fun b h3 h4=>hb b (Nat.le_of_lt h3) h4)⟩
 ·exact this
theorem FnsAt.below{lst:List (ByteArray×FnQ)}(h:FnsAt w mb lst)(hb:Below w.heap.size w w'):FnsAt w' mb lst:=h.keep (fun b _ h=>hb.block b h)
theorem FnsAt.made(w:World):FnsAt (w.alloc (.map #[] 0)) w.heap.size []:=⟨_,MapT.made w _ _ _,fun y=>rfl⟩
theorem FnsAt.lt{lst:List (ByteArray×FnQ)}(h:FnsAt w mb lst):mb<w.heap.size:=by
 obtain⟨F,h1,_⟩:=h;exact h1.lt
theorem FnsAt.put{lst:List (ByteArray×FnQ)}(h:FnsAt w mb lst)(x:ByteArray)(hx:x.size<=1048576)(v:Value)(q:FnQ)(hv:FnV w mb v q):
 ∃w',(Instr.mapUpdate 194 (.map (some mb)) (.string x) v).run Tryz.prog w= .ok () w'/\FnsAt w' mb ((x,q)::lst)/\w.grownBy w' (some mb):=by
 obtain⟨F,h1,h2⟩:=h;obtain⟨w',hr,hm,hg⟩:=h1.store str_law Tryz.underlying194 str_inj (str_key x hx) v;have hkeep:∀b,mb<b->b<w.heap.size->w'.heap[b]? =w.heap[b]? :=fun b hb hl=>hg.block b hl (fun e=>by injection e with e;omega);refine⟨w',hr,⟨_,hm,fun y=> ?_⟩,hg⟩;unfold M.look;by_cases hy:y=x
 ·subst hy
  rw[if_pos (eqT_iff.2 rfl)];exact⟨v,if_pos rfl,hv.keep hkeep⟩
 ·rw[if_neg (fun e=>hy (eqT_iff.1 e).symm)]
  have:=h2 y;split at this
  ·next q' hq=>
   obtain⟨v',hv',hq'⟩:=this;exact⟨v',(if_neg hy).trans hv',hq'.keep hkeep⟩
  ·next hq=>
   exact(if_neg hy).trans this
theorem wpList_insert_F{lst:List (ByteArray×FnQ)}(hg:o.guard=none)(m x v:Operand)(hop:o.op=Op.insert 194 m x v)(cs:Array Value)(h:FnsAt w mb lst)(key:ByteArray)(t s:Int)(b:Bool)(hm:a.eval m= .map (some mb))(hx:a.eval x= .string key)(nb k1 k2:Nat)(hv:a.eval v= .agg #[.slice (some ⟨nb,0,none⟩) k1 k2,.int .i64 t,.int .i64 s,.bool b])(hnb:nb=w.heap.size)(hk1:k1=cs.size)(hk2:k2=cs.size)(hk:key.size<=1048576)(hK:∀w',FnsAt w' mb ((key,(cs,t,s,b))::lst)->(w.alloc (.cells cs 3)).grownBy w' (some mb)->wpList Tryz.prog ops Q rest (a.put o.dst undef) w'):wpList Tryz.prog ops Q (o::rest) a (w.alloc (.cells cs 3)):=by
 subst hnb hk1 hk2;refine wpList_plain hg fun K' hK'=> ?_;obtain⟨w',hrun,r1,r2⟩:=(h.below (Stays.alloc w _)).put key hk (.agg #[.slice (some ⟨w.heap.size,0,none⟩) cs.size cs.size,.int .i64 t,.int .i64 s,.bool b]) (cs,t,s,b) ⟨_,rfl,.inr ⟨_,rfl,h.lt,Blk.new w _ _⟩⟩;unfold Oper.wp;simp[execOp,hop,hm,hx,hv,hrun,Result.andThen];exact hK' _ _ (hK w' r1 r2)
theorem wpList_insert_F0{lst:List (ByteArray×FnQ)}(hg:o.guard=none)(m x v:Operand)(hop:o.op=Op.insert 194 m x v)(h:FnsAt w mb lst)(key:ByteArray)(t s:Int)(b:Bool)(hm:a.eval m= .map (some mb))(hx:a.eval x= .string key)(hv:a.eval v= .agg #[.slice none 0 0,.int .i64 t,.int .i64 s,.bool b])(hk:key.size<=1048576)(hK:∀w',FnsAt w' mb ((key,(#[],t,s,b))::lst)->w.grownBy w' (some mb)->wpList Tryz.prog ops Q rest (a.put o.dst undef) w'):wpList Tryz.prog ops Q (o::rest) a w:=by
 refine wpList_plain hg fun K' hK'=> ?_;obtain⟨w',hrun,r1,r2⟩:=h.put key hk (.agg #[.slice none 0 0,.int .i64 t,.int .i64 s,.bool b]) (#[],t,s,b) ⟨none,rfl,.inl ⟨rfl,rfl⟩⟩;unfold Oper.wp;simp[execOp,hop,hm,hx,hv,hrun,Result.andThen];exact hK' _ _ (hK w' r1 r2)
def fnQ(f:M.Fn):FnQ:=((f.args.map (Value.int .i64)).toArray,f.tells,f.sort,f.table)
def fnsR:List (ByteArray×FnQ):=(M.fns.map fun p=>(p.1,fnQ p.2)).reverse
theorem functions_any(w:World):Calls Tryz.prog 131 #[] w fun e w'=>∃b,e= .returned (.map (some b))/\w.heap.size<=b/\FnsAt w' b fnsR/\Below w.heap.size w w':=by
 have HI:=q_ (FnsAt.made w);have HB:=q_ ((Below.refl _ w).alloc (n_) (.map #[] 0));have hmm:= @run_makeMap Tryz.prog;go_enter Tryz.func131,Tryz.ntmps131
 go_wp2_with (first
  |(refine wpList_insert_F (by rfl) _ _ _ (by rfl) _ HI.o _ _ _ _ (by rfl) (by rfl) _ _ _ (by rfl) (by simp) (by rfl) (by rfl) (by decide) ?_;intro w1 hi1 hg1;have HB:=q_ (below_gr (HB.o.alloc HB.o.size _) hg1 (n_));have HI:=q_ hi1;clear hi1 hg1)
  |(refine wpList_insert_F0 (by rfl) _ _ _ (by rfl) HI.o _ _ _ _ (by rfl) (by rfl) (by rfl) (by decide) ?_;intro w1 hi1 hg1;have HB:=q_ (below_gr HB.o hg1 (n_));have HI:=q_ hi1;clear hi1 hg1))
 go_ret;exact⟨_,rfl,n_,HI.o,HB.o⟩
theorem look_rev_none{y:ByteArray}:∀{l:List (ByteArray×M.Fn)},M.look y l=none->∀p∈l,p.1≠y
 |[],_,p,hp=>by cases hp
 |(k,v)::l,h,p,hp=>by
  unfold M.look at h;split at h
  ·cases h
  ·next hk=>
   rcases List.mem_cons.1 hp with rfl|hp
   ·exact fun e=>hk (eqT_iff.2 e)
   ·exact look_rev_none h p hp
theorem look_fns(y:ByteArray):M.look y fnsR=(M.look y M.fns).map fnQ:=by
 cases h:M.look y M.fns with
 |none=>
  have hno:=look_rev_none h
  have key:∀l:List (ByteArray×FnQ),(∀p∈l,p.1≠y)->M.look y l=none:=by
   intro l
   induction l with
   |nil=>exact fun _=>rfl
   |cons p l ih=>
    intro hl;unfold M.look;rw[if_neg (fun e=>hl p (by simp) (eqT_iff.1 e))];exact ih (fun q hq=>hl q (by simp[hq]))
  refine key _ (fun p hp=> ?_);unfold fnsR at hp;rw[List.mem_reverse,List.mem_map] at hp;obtain⟨q,hq,rfl⟩:=hp;exact hno q hq
 |some f=>
  have hin:∀l:List (ByteArray×M.Fn),M.look y l=some f->∃p∈l,p.1=y:=by
   intro l
   induction l with
   |nil=>intro h;cases h
   |cons p l ih=>
    intro h;unfold M.look at h;split at h
    ·next hk=>exact⟨p,by simp,eqT_iff.1 hk⟩
    ·obtain⟨q,hq,e⟩:=ih h
     exact⟨q,by simp[hq],e⟩
  obtain⟨p,hp,rfl⟩:=hin _ h;rw[<-h]
  have hall:∀q∈M.fns,M.look q.1 fnsR=(M.look q.1 M.fns).map fnQ:=by
   intro q hq;simp only[M.fns,List.mem_cons,List.not_mem_nil,or_false] at hq;rcases hq with rfl|rfl|rfl|rfl|rfl|rfl|rfl|rfl|rfl|rfl|rfl|rfl|rfl|rfl|rfl<;>rfl
  exact hall p hp
def zeroFn:Array Value:=#[.slice none 0 0,.int .i64 0,.int .i64 0,.bool false]
def FnVal(w:World)(q:Option M.Fn)(v:Value):Prop:=match q with
 |some fn=>∃mb,FnV w mb v (fnQ fn)
 |none=>v= .agg zeroFn
theorem FnVal.keep{w w':World}{q:Option M.Fn}{v:Value}(h:FnVal w q v)(hb:∀b T cs,Blk w b T cs->T=3->w'.heap[b]? =w.heap[b]?):FnVal w' q v:=by
 unfold FnVal at h⊢;split at h
 ·obtain⟨mb,A,e,h2⟩:=h
  refine⟨mb,A,e,h2.imp id ?_⟩;rintro⟨b,e,h3,h4⟩;exact⟨b,e,h3,(hb b _ _ h4 rfl).trans h4⟩
 ·exact h
theorem FnVal.stays{w w':World}{q:Option M.Fn}{v:Value}(h:FnVal w q v)(hb:Below w.heap.size w w'):FnVal w' q v:=h.keep (fun b T cs hk _=>hb.block b hk.lt)
structure FnI(W0:World)(q:Option M.Fn)(L:Nat->Bool)(vs:Nat->Value)(w:World):Prop where
 below:Below W0.heap.size W0 w
 f0:L 0=true->∃b,vs 0= .map (some b)/\FnsAt w b fnsR
 f3:L 3=true->∃v,vs 3= .tuple #[v,.bool q.isSome]/\FnVal w q v
 f4:L 4=true->∃v,vs 4= .tuple #[v,.bool q.isSome]/\FnVal w q v
 f5:L 5=true->FnVal w q (vs 5)
 f7:L 7=true->∃g,vs 7= .pointer (some ⟨g,0,none⟩)/\W0.heap.size<=g/\(L 8=false->Blk w g 192 zeroFn)/\(L 8=true->∃cs,vs 5= .agg cs/\Blk w g 192 cs)
 w8:L 8=true->L 7=true/\L 5=true
section
variable {W0 w w':World} {q:Option M.Fn} {L:Nat->Bool} {vs:Nat->Value}
theorem FnI.start(W0:World):FnI W0 q (fun _=>false) vs {W0 with drawn:=W0.drawn+1}:=
 ⟨⟨rfl,rfl,rfl,n_,fun _ _=>rfl⟩,(fun h=>by cases h),(fun h=>by cases h),(fun h=>by cases h),(fun h=>by cases h),(fun h=>by cases h),(fun h=>by cases h)⟩
theorem updv_ne{k j:Nat}{v:Value}(h:j≠k):updv vs k v j=vs j:=by simp[updv,h]
theorem upd_ne{k j:Nat}(h:j≠k):upd L k j=L j:=by simp[upd,h]
theorem FnI.on(h:FnI W0 q L vs w)(hb:Below w.heap.size w w'):FnI W0 q L vs w':=by
 refine⟨h.below.trans (hb.mono h.below.size),fun hl=> ?_,fun hl=> ?_,fun hl=> ?_,fun hl=>(h.f5 hl).stays hb,fun hl=> ?_,h.w8⟩
 ·obtain⟨b,e,h1⟩:=h.f0 hl
  exact⟨b,e,h1.below hb⟩
 ·obtain⟨v,e,h1⟩:=h.f3 hl
  exact⟨v,e,h1.stays hb⟩
 ·obtain⟨v,e,h1⟩:=h.f4 hl
  exact⟨v,e,h1.stays hb⟩
 ·obtain⟨g,e1,e2,e3,e4⟩:=h.f7 hl
  exact⟨g,e1,e2,fun h8=>(e3 h8).below hb (e3 h8).lt,fun h8=>by obtain⟨cs,e5,e6⟩:=e4 h8;exact⟨cs,e5,e6.below hb e6.lt⟩⟩
theorem FnI.pure(h:FnI W0 q L vs w){k:Nat}{v:Value}(h0:k≠0)(h3:k≠3)(h4:k≠4)(h5:k≠5)(h7:k≠7)(h8:k≠8):FnI W0 q (upd L k) (updv vs k v) w:=by
 refine⟨h.below,?_,?_,?_,?_,?_,?_⟩
 ·rw[upd_ne (Ne.symm h0),updv_ne (Ne.symm h0)];exact h.f0
 ·rw[upd_ne (Ne.symm h3),updv_ne (Ne.symm h3)];exact h.f3
 ·rw[upd_ne (Ne.symm h4),updv_ne (Ne.symm h4)];exact h.f4
 ·rw[upd_ne (Ne.symm h5),updv_ne (Ne.symm h5)];exact h.f5
 ·rw[upd_ne (Ne.symm h7),updv_ne (Ne.symm h7),upd_ne (Ne.symm h8),updv_ne (Ne.symm h5)];exact h.f7
 ·rw[upd_ne (Ne.symm h8),upd_ne (Ne.symm h7),upd_ne (Ne.symm h5)];exact h.w8
theorem FnI.put0(h:FnI W0 q L vs w){b:Nat}(hm:FnsAt w b fnsR):FnI W0 q (upd L 0) (updv vs 0 (.map (some b))) w:=by
 refine⟨h.below,fun _=>⟨b,by simp[updv],hm⟩,?_,?_,?_,?_,?_⟩
 ·rw[upd_ne (by decide),updv_ne (by decide)];exact h.f3
 ·rw[upd_ne (by decide),updv_ne (by decide)];exact h.f4
 ·rw[upd_ne (by decide),updv_ne (by decide)];exact h.f5
 ·rw[upd_ne (by decide),updv_ne (by decide),upd_ne (by decide),updv_ne (by decide)];exact h.f7
 ·rw[upd_ne (by decide),upd_ne (by decide),upd_ne (by decide)];exact h.w8
theorem FnI.put3(h:FnI W0 q L vs w){v:Value}(hv:FnVal w q v):FnI W0 q (upd L 3) (updv vs 3 (.tuple #[v,.bool q.isSome])) w:=by
 refine⟨h.below,?_,fun _=>⟨v,by simp[updv],hv⟩,?_,?_,?_,?_⟩
 ·rw[upd_ne (by decide),updv_ne (by decide)];exact h.f0
 ·rw[upd_ne (by decide),updv_ne (by decide)];exact h.f4
 ·rw[upd_ne (by decide),updv_ne (by decide)];exact h.f5
 ·rw[upd_ne (by decide),updv_ne (by decide),upd_ne (by decide),updv_ne (by decide)];exact h.f7
 ·rw[upd_ne (by decide),upd_ne (by decide),upd_ne (by decide)];exact h.w8
theorem FnI.put4(h:FnI W0 q L vs w){v:Value}(hv:FnVal w q v):FnI W0 q (upd L 4) (updv vs 4 (.tuple #[v,.bool q.isSome])) w:=by
 refine⟨h.below,?_,?_,fun _=>⟨v,by simp[updv],hv⟩,?_,?_,?_⟩
 ·rw[upd_ne (by decide),updv_ne (by decide)];exact h.f0
 ·rw[upd_ne (by decide),updv_ne (by decide)];exact h.f3
 ·rw[upd_ne (by decide),updv_ne (by decide)];exact h.f5
 ·rw[upd_ne (by decide),updv_ne (by decide),upd_ne (by decide),updv_ne (by decide)];exact h.f7
 ·rw[upd_ne (by decide),upd_ne (by decide),upd_ne (by decide)];exact h.w8
theorem FnI.put5(h:FnI W0 q L vs w)(hL:L 5=false){v:Value}(hv:FnVal w q v):FnI W0 q (upd L 5) (updv vs 5 v) w:=by
 have h8:L 8=false:=by cases hc:L 8 with|false=>rfl|true=>rw[(h.w8 hc).2] at hL;cases hL
 refine⟨h.below,?_,?_,?_,fun _=>by simpa[updv] using hv,?_,?_⟩
 ·rw[upd_ne (by decide),updv_ne (by decide)];exact h.f0
 ·rw[upd_ne (by decide),updv_ne (by decide)];exact h.f3
 ·rw[upd_ne (by decide),updv_ne (by decide)];exact h.f4
 ·rw[upd_ne (by decide),updv_ne (by decide),upd_ne (by decide),h8]
  intro hl;obtain⟨g,e1,e2,e3,e4⟩:=h.f7 hl;exact⟨g,e1,e2,fun _=>e3 h8,fun h=>by cases h⟩
 ·rw[upd_ne (by decide),h8];intro h;cases h
theorem FnI.put7(h:FnI W0 q L vs w)(hL:L 7=false):FnI W0 q (upd L 7) (updv vs 7 (.pointer (some ⟨w.heap.size,0,none⟩))) (w.alloc (.cells zeroFn 192)):=by
 have h8:L 8=false:=by cases hc:L 8 with|false=>rfl|true=>rw[(h.w8 hc).1] at hL;cases hL
 have h1:=h.on (Stays.alloc w (.cells zeroFn 192));refine⟨h1.below,?_,?_,?_,?_,fun _=>⟨w.heap.size,by simp[updv],h.below.size,fun _=>Blk.new _ _ _,?_⟩,?_⟩
 ·rw[upd_ne (by decide),updv_ne (by decide)];exact h1.f0
 ·rw[upd_ne (by decide),updv_ne (by decide)];exact h1.f3
 ·rw[upd_ne (by decide),updv_ne (by decide)];exact h1.f4
 ·rw[upd_ne (by decide),updv_ne (by decide)];exact h1.f5
 ·rw[upd_ne (by decide),h8];intro h;cases h
 ·rw[upd_ne (by decide),h8];intro h;cases h
theorem FnI.put8(h:FnI W0 q L vs w){g:Nat}{cs:Array Value}(h7:L 7=true)(h5:L 5=true)(hv7:vs 7= .pointer (some ⟨g,0,none⟩))(hv5:vs 5= .agg cs)(hge:W0.heap.size<=g)(hk0:∃cs0,Blk w g 192 cs0)(hk:Blk w' g 192 cs)(hg:w.grownBy w' (some g))(v:Value):FnI W0 q (upd L 8) (updv vs 8 v) w':=by
 obtain⟨cs0,hk0⟩:=hk0
 have hint:∀b T cs',Blk w b T cs'->T=3->w'.heap[b]? =w.heap[b]? :=fun b T cs' hb hT=>hg.block b hb.lt (fun e=>by
  injection e with e;subst e hT;have:=hk0.symm.trans hb;injection this with this;injection this with _ this _;exact absurd this (by decide))
 have hmap:∀b,FnsAt w b fnsR->FnsAt w' b fnsR:=by
  rintro b ⟨F,h1,h2⟩
  have hbg:b≠g:=fun e=>by
   subst e;obtain⟨es,clock,hb,_⟩:=h1;have:=hk0.symm.trans hb;injection this with this;cases this
  refine⟨F,h1.keep (hg.block b h1.lt (fun e=>hbg (by injection e))),fun y=> ?_⟩;have:=h2 y;split at this
  ·next q' hq=>
   obtain⟨v',hv',A,e,hA⟩:=this;refine⟨v',hv',A,e,hA.imp id ?_⟩;rintro⟨b',e',h3,h4⟩;exact⟨b',e',h3,(hint b' _ _ h4 rfl).trans h4⟩
  ·next hq=>exact this
 refine⟨below_gr h.below hg hge,?_,?_,?_,?_,?_,fun _=> ?_⟩
 ·rw[upd_ne (by decide),updv_ne (by decide)]
  intro hl;obtain⟨b,e,h1⟩:=h.f0 hl;exact⟨b,e,hmap b h1⟩
 ·rw[upd_ne (by decide),updv_ne (by decide)]
  intro hl;obtain⟨v,e,h1⟩:=h.f3 hl;exact⟨v,e,h1.keep hint⟩
 ·rw[upd_ne (by decide),updv_ne (by decide)]
  intro hl;obtain⟨v,e,h1⟩:=h.f4 hl;exact⟨v,e,h1.keep hint⟩
 ·rw[upd_ne (by decide),updv_ne (by decide)]
  intro hl;exact(h.f5 hl).keep hint
 ·rw[upd_ne (by decide),updv_ne (by decide),updv_ne (by decide)]
  intro _;exact⟨g,hv7,hge,(fun h=>by simp[upd] at h),fun _=>⟨cs,hv5,hk⟩⟩
 ·rw[upd_ne (by decide),upd_ne (by decide)]
  exact⟨h7,h5⟩
theorem FnVal.agg{v:Value}(h:FnVal w q v):∃A n t s b,v= .agg #[.slice A n n,.int .i64 t,.int .i64 s,.bool b]:=by
 unfold FnVal at h;split at h
 ·obtain⟨mb,A,e,_⟩:=h
  exact⟨_,_,_,_,_,e⟩
 ·exact⟨_,_,_,_,_,h⟩
theorem put4{g:Nat}{t:TypeId}{a b c d:Value}(h:Blk w g t zeroFn):Blk ((((w.setCell ⟨g,0,none⟩ a).setCell ⟨g,1,none⟩ b).setCell ⟨g,2,none⟩ c).setCell ⟨g,3,none⟩ d) g t #[a,b,c,d]/\w.grownBy ((((w.setCell ⟨g,0,none⟩ a).setCell ⟨g,1,none⟩ b).setCell ⟨g,2,none⟩ c).setCell ⟨g,3,none⟩ d) (some g):=
 ⟨(((h.set_ 0 a).set_ 1 b).set_ 2 c).set_ 3 d,(((grown_set _ _ _ _).trans (grown_set _ _ _ _)).trans (grown_set _ _ _ _)).trans (grown_set _ _ _ _)⟩
theorem fns_look{b:Nat}(h:FnsAt w b fnsR)(text:ByteArray)(ht:text.size<=1048576):∃v,(Instr.lookup 194 (.map (some b)) (.string text) true).run Tryz.prog w= .ok (.tuple #[v,.bool (M.look text M.fns).isSome]) w/\FnVal w (M.look text M.fns) v:=by
 obtain⟨F,h1,h2⟩:=h;have hl:=h1.look str_law Tryz.underlying194 str_inj (str_key text ht) (Tryz.zeroValue192 w) true;have h3:=h2 text;rw[look_fns] at h3;cases hq:M.look text M.fns with
 |none=>
  rw[hq] at h3;have h3:F text=none:=h3;rw[h3] at hl;exact⟨_,hl,rfl⟩
 |some fn=>
  rw[hq] at h3;obtain⟨v,hv,hf⟩:∃v,F text=some v/\FnV w b v (fnQ fn):=h3;rw[hv] at hl;exact⟨v,hl,b,hf⟩
end
end
end Go.Proofs.YtnocnbklhikmnaaGreatDoor
