/- Part 40 of the proof. -/
import Derived.Test.YtnocnbklhikmnaaGreatDoorW34
import Derived.Test.YtnocnbklhikmnaaGreatDoorW39
import Derived.Lib.SmallJoins
import Derived.Deep.Slices
import Derived.Deep.Fields
import Derived.ChangeSlices
import Derived.WideKeyArgs
import Derived.SizedLaws
set_option linter.unusedVariables false
set_option maxRecDepth 1000000
set_option maxHeartbeats 16000000
namespace Go.Proofs.YtnocnbklhikmnaaGreatDoor
variable{α:Type}{E:Enc α}{H:Type}{t:TypeId}
section
open Go Go.Proofs Go.Proofs.YtnocnbklhikmnaaGreatDoor.Rk
def memo3:Memo where
 f:=6
 args:=[]
 n0:=0
 old:=[]
 v:=(.bool true)
 n1:=946
 new:=[]
noncomputable def told3:Rk.Told:=(addT (addT told0 memo1.f (oMemo memo1)) memo2.f (oMemo memo2))
theorem memo3_ok:memo3.check (call Tryz.prog told3 (dcall Tryz.prog 100000) 100000 300 memo3.f memo3.args memo3.start)=true:=by kernel_rfl
theorem told_m3:ToldT Tryz.prog memo3.f (oMemo memo3):=told_memo plain_ mixed_ ((told0_ok.add told_m1).add told_m2) 100000 300 memo3 memo3_ok
end
section
open Go Go.RowKit Go.Proofs Go.Proofs.YtnocnbklhikmnaaGreatDoor.Rk
theorem alive_run:ansTrue (call Tryz.prog (addT told0 memo3.f (oMemo memo3)) (dcall Tryz.prog 100000) 100000 300 6 [] ⟨.leaf,0,[]⟩)=true:=by kernel_rfl
theorem alive_ok:∀w,Calls Tryz.prog 6 #[] w fun e w'=>e= .returned (.bool true)/\Below w.heap.size w w':=fun w=>
 closed_args plain_ mixed_ (told0_ok.add told_m3) 100000 300 alive_run #[] .nil w
end
section
open Go Go.Joins Go.ChangeShapes Go.WideShapes Go.RowKit Go.Deep
theorem bulk_pos(d:DataW H):1<=Rows.uptoBulk d:=by
 cases d with
 |lit l=>cases l<;>simp[Rows.uptoBulk]
 |nil=>simp[Rows.uptoBulk]
 |ptr d=>simp[Rows.uptoBulk]
 |slice a b=>simp[Rows.uptoBulk]
 |agg a=>simp[Rows.uptoBulk]
 |iface a b=>simp[Rows.uptoBulk]
 |map a=>simp[Rows.uptoBulk]
 |held a=>simp[Rows.uptoBulk]
theorem bulk_all{H:Type}:∀(l:List (DataW H)),l.length<=Rows.uptoBulkAll l/\∀(i:Nat) (d:DataW H),l[i]? =some d->Rows.uptoBulk d<=Rows.uptoBulkAll l
 |[]=>⟨by simp[Rows.uptoBulkAll],fun i d h=>by simp at h⟩
 |y::l=>by
  have h1:=bulk_all l;have h2:=bulk_pos y;refine⟨by simp[Rows.uptoBulkAll];omega,fun i d h=> ?_⟩;simp only[Rows.uptoBulkAll];cases i with
  |zero=>simp at h;subst h;omega
  |succ i=>have:=h1.2 i d (by simpa using h);omega
theorem list_of_{α:Type}{Q:Nat->α->Prop}:∀n,(∀i,i<n->∃x,Q i x)->∃l:List α,l.length=n/\∀i x,l[i]? =some x->Q i x
 |0,_=>⟨[],rfl,fun i x h=>by simp at h⟩
 |n+1,h=>by
  obtain⟨l,hl,hq⟩:=list_of_ n fun i hi=>h i (by omega);obtain⟨x,hx⟩:=h n (by omega);refine⟨l++[x],by simp[hl],fun i y hy=> ?_⟩;rcases Nat.lt_or_ge i n with hi|hi
  ·rw[List.getElem?_append_left (by omega)] at hy
   exact hq i y hy
  ·rw[List.getElem?_append_right (by omega)] at hy
   have hi0:i-l.length=0:=by have:=(List.getElem?_eq_some_iff.1 hy).1;simp at this;omega
   rw[hi0] at hy;simp at hy;subst hy;have:i=n:=by omega
   exact this▸hx
def Opens(E:Enc α)(t:TypeId):Prop:=∀(H:Type) (enc:TypeId×Value->H) (w:World) (base:Nat) (spare:Nat->Bool) (held:Bool) (fuel:Nat) (cs:List Value) (x:DataW H×List MemPlace),DataW.trod enc Tryz.prog w base spare held fuel t cs=some x->Rows.uptoBulk x.1<=1048576->∃a,E.R w (fun b=>b<w.heap.size) cs a
theorem opens_str:Opens EStr 9:=by
 intro H enc w base spare held fuel cs x h hb;obtain⟨s,rfl,rfl,_⟩:=DataW.trod_string Tryz.underlying9 h;exact⟨s,rfl,by simp[Rows.uptoBulk] at hb;omega⟩
theorem opens_list{e:TypeId}(ht:Tryz.prog.underlying t=some (.slice e))(hc:Tryz.prog.cellsOf e=E.n)(he:Opens E e):Opens E.list t:=by
 intro H enc w base spare held fuel cs x h hb;rcases DataW.trod_slice ht h with⟨rfl,rfl⟩|⟨a,len,cap,elems,rest,n,rfl,rfl,rfl,_,hlc,hcm,hel,hi,-,-⟩
 ·exact⟨[],Enc.list_nil⟩
 ·simp only[Rows.uptoBulk] at hb
  have hb1:=bulk_all (elems.map (·.1));rw[List.length_map,hel] at hb1
  obtain⟨xs,hxl,hx⟩:=list_of_ (Q:=fun i y=>∃cs',E.R w (fun b=>b<w.heap.size) cs' y/\∀k u,cs'[k]? =some u->w.cell? (a.add (i*E.n+k))=some u) len (fun i hil=>by
   obtain⟨y,hy⟩:∃y,elems[i]? =some y:=⟨_,List.getElem?_eq_getElem (by omega)⟩
   have h1:=hi i hil;rw[hy,Option.bind_eq_some_iff] at h1;obtain⟨cs',h2,h3⟩:=h1;obtain⟨_,hlen,hcell⟩:=World.cells?_some h2;obtain⟨z,hz⟩:=he H enc w base spare held n cs' y h3 (by have:=hb1.2 i y.1 (by rw[List.getElem?_map,hy];rfl);omega);refine⟨z,cs',hz,fun k u hu=> ?_⟩;have hk:k<cs'.length:=(List.getElem?_eq_some_iff.1 hu).1;rw[<-add_of_add,<-hc,hcell k (by omega)];exact hu)
  refine⟨xs,Enc.list_mk ⟨hxl,fun hp=>⟨a,rfl,?_,hx⟩⟩ ⟨(fun h=>by cases h),hlc,by omega,hcm⟩⟩;obtain⟨cs',h1,h2⟩:=hx 0 _ (List.getElem?_eq_getElem (by omega));have hpos:=E.len h1;have:=E.pos;have hh:=h2 0 _ (List.getElem?_eq_getElem (by omega));have:=World.block_lt_of_cell? _ _ hh
  rwa [block_of_add] at this
theorem opens_pair{β γ:Type}{F:Enc β}{f:γ->α}{g:γ->β}{f0 f1:Field}(hs:Tryz.prog.underlying t=some (.struct #[f0,f1]))(hmk:∀a b,∃c,f c=a/\g c=b)(ho0:f0.offset=0)(ho1:f1.offset=E.n)(hc:Tryz.prog.cellsOf t=E.n+F.n)(hc0:Tryz.prog.cellsOf f0.type=E.n)(hc1:Tryz.prog.cellsOf f1.type=F.n)(h0:Opens E f0.type)(h1:Opens F f1.type):Opens (Enc.pair E F f g) t:=by
 intro H enc w base spare held fuel cs x h hb;obtain⟨xs,n,rfl,rfl,hl,hxl,hg⟩:=DataW.trod_struct hs h
 match xs,hxl with
 |[y0,y1],_=>
  simp only[Rows.uptoBulk,List.map_cons,List.map_nil,Rows.uptoBulkAll] at hb;have k0:=hg 0 f0 rfl;have k1:=hg 1 f1 rfl;obtain⟨a,ha⟩:=h0 H enc w base spare held n _ y0 k0 (by omega);obtain⟨b,hb2⟩:=h1 H enc w base spare held n _ y1 k1 (by omega);obtain⟨c,rfl,rfl⟩:=hmk a b;refine⟨c,_,_,?_,ha,hb2⟩;rw[ho0,ho1,hc0,hc1,List.drop_zero];rw[List.take_of_length_le (l:=cs.drop E.n) (by rw[List.length_drop];omega),List.take_append_drop]
theorem opens_seg:Opens ESeg 45:=
 opens_pair Tryz.underlying45 (fun a b=>⟨⟨a,b⟩,rfl,rfl⟩) rfl rfl (by kernel_rfl) (by kernel_rfl) (by kernel_rfl) opens_str
  (opens_list Tryz.underlying43 (by kernel_rfl) (opens_list Tryz.underlying46 (by kernel_rfl) (opens_list Tryz.underlying47 (by kernel_rfl) (opens_list Tryz.underlying35 (by kernel_rfl) opens_str))))
theorem u8_wf{n:Int}(h:(Lit.int .u8 n).wf=true):∃b:UInt8,n=(b.toNat:Int):=by
 simp only[Lit.wf,Bool.and_eq_true,decide_eq_true_eq] at h;have h1:0<=n/\n<=255:=h;refine⟨UInt8.ofNat n.toNat,?_⟩;rw[UInt8.toNat_ofNat'];omega
theorem open_msg{enc:TypeId×Value->H}{w:World}{base:Nat}{spare:Nat->Bool}{held:Bool}{r:Reach}{b0:Nat}{v:Value}{d:DataW H}{p:List MemPlace}(hv:Value.okWide Tryz.prog w r b0 26 v)(h:DataW.Trod enc Tryz.prog w base spare held 26 v d p)(hb:Rows.uptoBulk d<=1048576):
 ∃(m:M.Msg) (A:Option Addr) (c:Nat),v= .agg #[.int .u8 (m.d.f.toNat:Int),.int .u8 (m.d.c.toNat:Int),.int .u8 (m.d.r.toNat:Int),.int .u8 (m.d.e.toNat:Int),.int .u8 (m.d.s.toNat:Int),.slice A m.segs.length c]/\SOk A m.segs.length c/\LAt ESeg w (fun b=>b<w.heap.size) A m.segs.length m.segs:=by
 obtain⟨cs,rfl,hsz⟩:=okWide_struct Tryz.underlying26 hv;obtain⟨l⟩:=cs
 match l,hsz.trans (show Tryz.prog.cellsOf 26=6 by kernel_rfl) with
 |[c0,c1,c2,c3,c4,c5],_=>
  obtain⟨fuel,hf⟩:=h;obtain⟨xs,n,-,hx,-,hxl,hg⟩:=DataW.trod_struct Tryz.underlying26 hf
  match xs,hxl with
  |[y0,y1],_=>
   simp only[Prod.mk.injEq] at hx;obtain⟨rfl,rfl⟩:=hx;simp only[Rows.uptoBulk,List.map_cons,List.map_nil,Rows.uptoBulkAll] at hb;have k0:=hg 0 _ rfl;have k1:=hg 1 _ rfl;simp only[Value.cells,List.getElem?_cons_zero,List.getElem?_cons_succ] at k0 k1;obtain⟨zs,n9,-,rfl,-,hzl,hg4⟩:=DataW.trod_struct Tryz.underlying23 k0
   match zs,hzl with
   |[z0,z1,z2,z3,z4],_=>
    have m0:=hg4 0 _ rfl;have m1:=hg4 1 _ rfl;have m2:=hg4 2 _ rfl;have m3:=hg4 3 _ rfl;have m4:=hg4 4 _ rfl;simp only[List.getElem?_cons_zero,List.getElem?_cons_succ] at m0 m1 m2 m3 m4;obtain⟨n0,e0,-,w0⟩:=DataW.trod_int Tryz.underlying5 m0;obtain⟨n1,e1,-,w1⟩:=DataW.trod_int Tryz.underlying5 m1;obtain⟨n2,e2,-,w2⟩:=DataW.trod_int Tryz.underlying5 m2;obtain⟨n3,e3,-,w3⟩:=DataW.trod_int Tryz.underlying5 m3;obtain⟨n4,e4,-,w4⟩:=DataW.trod_int Tryz.underlying5 m4;cases e0;cases e1;cases e2;cases e3;cases e4;obtain⟨b0,rfl⟩:=u8_wf w0;obtain⟨b1,rfl⟩:=u8_wf w1;obtain⟨b2,rfl⟩:=u8_wf w2;obtain⟨b3,rfl⟩:=u8_wf w3;obtain⟨b4,rfl⟩:=u8_wf w4;obtain⟨segs,hs⟩:=opens_list Tryz.underlying24 (by kernel_rfl) opens_seg H enc w base spare held n _ y1 k1 (by omega);obtain⟨A,c,rfl,h1,h2⟩:=Enc.list_inv (E:=ESeg) hs;exact⟨⟨⟨b0,b1,b2,b3,b4⟩,segs⟩,A,c,rfl,h1,h2⟩
end
end Go.Proofs.YtnocnbklhikmnaaGreatDoor
