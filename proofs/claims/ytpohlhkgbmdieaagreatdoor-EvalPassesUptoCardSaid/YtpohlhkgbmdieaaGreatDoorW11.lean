/- Part 11 of the proof. -/
import Derived.Test.YtpohlhkgbmdieaaGreatDoorW10
import Derived.Test.YtpohlhkgbmdieaaGreatDoorRows
import Derived.Lib.SmallJoins
import Derived.Deep.Slices
import Derived.Deep.Fields
import Derived.ChangeSame
import Derived.ChangeSlices
import Derived.WideKeyArgs
import Derived.SizedLaws
import Derived.Lib.SliceRun
set_option linter.unusedVariables false
set_option maxRecDepth 1000000
set_option maxHeartbeats 16000000
namespace Go.Proofs.YtpohlhkgbmdieaaGreatDoor
variable{α:Type}{E:aU α}{H:Type}{b b0 base:Nat}{d:DataW H}{e:TypeId}{enc:TypeId×Value->H}{et LY:Nat}{held:Bool}{n:Int}{p:List MemPlace}{r:Reach}{sh:Value->Prop}{spare:Nat->Bool}{st sz:Nat}{t:TypeId}{v:Value}{w:World}{z:Value}{β:Type}
section
open Go.RowKit
def bN:aU ByteArray:=aU.flat (fun s=>[.string s]) 1 Nat.one_pos (fun s=>s.size<=1048576) (fun _=>rfl) (fun _ u hu=>by simp at hu;subst hu;rfl)
def cJ:aU (List ByteArray):=bN.list
def jQ:aU (List (List ByteArray)):=cJ.list
def cG:aU (List (List (List ByteArray))):=jQ.list
def dR:aU (List (List (List (List ByteArray)))):=cG.list
def aX:aU M.Seg:=aU.pair bN dR M.Seg.name M.Seg.fields
def uO:aU (List M.Seg):=aX.list
def Tq:aU Int:=aU.flat (fun i=>[.int .i64 i]) 1 Nat.one_pos (fun i=> -9223372036854775808<=i/\i<=9223372036854775807) (fun _=>rfl) (fun _ u hu=>by simp at hu;subst hu;rfl)
def M.Path.cells(p:M.Path):List Value:=[.string p.aN,.int .i64 p.aP,.int .i64 p.aR,.int .i64 p.rep,.int .i64 p.comp,.int .i64 p.sub]
def M.Node.cells(x:M.Node):List Value:=[.int .i64 x.op,.int .i64 x.n,.string x.text,.int .i64 x.num]++x.path.cells
def pH(i:Int):Prop:= -9223372036854775808<=i/\i<=9223372036854775807
def M.Path.jd(p:M.Path):Prop:=p.aN.size<=1048576/\pH p.aP/\pH p.aR/\pH p.rep/\pH p.comp/\pH p.sub
def M.Node.jd(x:M.Node):Prop:=pH x.op/\pH x.n/\x.text.size<=1048576/\pH x.num/\x.path.jd
def ENode:aU M.Node:=aU.flat M.Node.cells 10 (by omega) M.Node.jd (fun _=>rfl) (fun x u hu=>by
 simp[M.Node.cells,M.Path.cells] at hu;rcases hu with rfl|rfl|rfl|rfl|rfl|rfl|rfl|rfl|rfl|rfl<;>rfl)
def jB:aU (List M.Node):=ENode.list
def ld:aU (ByteArray×ByteArray):=aU.flat (fun p=>[.string p.1,.string p.2]) 2 (by omega) (fun p=>p.1.size<=1048576/\p.2.size<=1048576) (fun _=>rfl) (fun _ u hu=>by
 simp at hu;rcases hu with rfl|rfl<;>rfl)
def Ob:aU (List (ByteArray×ByteArray)):=ld.list
def cV:aU M.Table:=aU.pair bN Ob M.Table.name M.Table.entries
def M.Val.cells(v:M.Val):List Value:=[.int .i64 v.kind,.string v.text,.int .i64 v.num,.bool v.truth]
def F0:aU M.Val:=aU.flat M.Val.cells 4 (by omega) (fun v=>v.text.size<=1048576) (fun _=>rfl) (fun v u hu=>by
 simp[M.Val.cells] at hu;rcases hu with rfl|rfl|rfl|rfl<;>rfl)
def M.bR.cells(d:M.bR):Array Value:=#[.int .u8 (d.f.toNat:Int),.int .u8 (d.c.toNat:Int),.int .u8 (d.r.toNat:Int),.int .u8 (d.e.toNat:Int),.int .u8 (d.s.toNat:Int)]
section
variable {w w':World} {S:Nat->Prop} {u:Value} {cs:List Value}
theorem bN.inv{s:ByteArray}(h:bN.R w S [u] s):u= .string s/\s.size<=1048576:=by
 obtain⟨h1,h2⟩:=h;simp at h1;exact⟨h1,h2⟩
theorem bN.mk{s:ByteArray}(h:s.size<=1048576):bN.R w S [.string s] s:=⟨rfl,h⟩
theorem bF{α:Type}{E:aU α}{x:List α}(h:E.list.R w S [u] x):∃A n c,u= .slice A n c:=by
 obtain⟨A,c,rfl,_⟩:=aU.av h;exact⟨_,_,_,rfl⟩
theorem aX.inv{s:M.Seg}(h:aX.R w S cs s):∃A c,cs=[.string s.name,.slice A s.fields.length c]/\s.name.size<=1048576/\bX A s.fields.length c/\bn cG w S A s.fields.length s.fields:=by
 obtain⟨c1,c2,rfl,⟨rfl,hn⟩,h2⟩:=h;obtain⟨v,rfl⟩:=one_cell (dR.len h2);obtain⟨A,c,rfl,aI,hl⟩:=aU.av (E:=cG) h2;exact⟨A,c,rfl,hn,aI,hl⟩
theorem aX.mk{s:M.Seg}{v:Value}(hn:s.name.size<=1048576)(h:dR.R w S [v] s.fields):aX.R w S [.string s.name,v] s:=⟨[.string s.name],[v],rfl,⟨rfl,hn⟩,h⟩
theorem cV.inv{t:M.Table}(h:cV.R w S cs t):∃A c,cs=[.string t.name,.slice A t.entries.length c]/\t.name.size<=1048576/\bX A t.entries.length c/\bn ld w S A t.entries.length t.entries:=by
 obtain⟨c1,c2,rfl,⟨rfl,hn⟩,h2⟩:=h;obtain⟨v,rfl⟩:=one_cell (Ob.len h2);obtain⟨A,c,rfl,aI,hl⟩:=aU.av (E:=ld) h2;exact⟨A,c,rfl,hn,aI,hl⟩
end
def CS(w:World)(m:M.dQ)(e:Ending)(w':World):Prop:=∃A c,e= .returned (.agg #[.int .u8 (m.d.f.toNat:Int),.int .u8 (m.d.c.toNat:Int),.int .u8 (m.d.r.toNat:Int),.int .u8 (m.d.e.toNat:Int),.int .u8 (m.d.s.toNat:Int),.slice A m.aH.length c])/\bX A m.aH.length c/\bn aX w' (New w w') A m.aH.length m.aH/\Below w.heap.size w w'
def x8(w:World)(m:M.dQ)(code:Int)(e:Ending)(w':World):Prop:=∃A c,e= .returned (.tuple #[.agg #[.int .u8 (m.d.f.toNat:Int),.int .u8 (m.d.c.toNat:Int),.int .u8 (m.d.r.toNat:Int),.int .u8 (m.d.e.toNat:Int),.int .u8 (m.d.s.toNat:Int),.slice A m.aH.length c],.int .i64 code])/\bX A m.aH.length c/\bn aX w' (New w w') A m.aH.length m.aH/\Below w.heap.size w w'
end
section
open Go Go.Joins Go.ChangeShapes Go.WideShapes Go.RowKit Go.Deep
theorem Oc(d:DataW H):1<=Rows.uptoBulk d:=by
 cases d with
 |lit l=>cases l<;>simp[Rows.uptoBulk]
 |nil=>simp[Rows.uptoBulk]
 |ptr d=>simp[Rows.uptoBulk]
 |slice a b=>simp[Rows.uptoBulk]
 |agg a=>simp[Rows.uptoBulk]
 |iface a b=>simp[Rows.uptoBulk]
 |map a=>simp[Rows.uptoBulk]
 |held a=>simp[Rows.uptoBulk]
theorem CT{H:Type}:∀(l:List (DataW H)),l.length<=Rows.uptoBulkAll l/\∀(i:Nat) (d:DataW H),l[i]? =some d->Rows.uptoBulk d<=Rows.uptoBulkAll l
 |[]=>⟨by simp[Rows.uptoBulkAll],fun i d h=>by simp at h⟩
 |y::l=>by
  have h1:=CT l;have h2:=Oc y;refine⟨by simp[Rows.uptoBulkAll];omega,fun i d h=> ?_⟩;simp only[Rows.uptoBulkAll];cases i with
  |zero=>simp at h;subst h;omega
  |succ i=>have:=h1.2 i d (by simpa using h);omega
theorem CU{α:Type}{Q:Nat->α->Prop}:∀n,(∀i,i<n->∃x,Q i x)->∃l:List α,l.length=n/\∀i x,l[i]? =some x->Q i x
 |0,_=>⟨[],rfl,fun i x h=>by simp at h⟩
 |n+1,h=>by
  obtain⟨l,hl,hq⟩:=CU n fun i hi=>h i (by omega);obtain⟨x,hx⟩:=h n (by omega);refine⟨l++[x],by simp[hl],fun i y hy=> ?_⟩;rcases Nat.lt_or_ge i n with hi|hi
  ·rw[List.getElem?_append_left (by omega)] at hy
   exact hq i y hy
  ·rw[List.getElem?_append_right (by omega)] at hy
   have Nr:i-l.length=0:=by have:=(g_ hy).1;simp at this;omega
   rw[Nr] at hy;simp at hy;subst hy;have:i=n:=by omega
   exact this▸hx
def lT(E:aU α)(t:TypeId):Prop:=∀(H:Type) (enc:TypeId×Value->H) (w:World) (base:Nat) (spare:Nat->Bool) (held:Bool) (fuel:Nat) (cs:List Value) (x:DataW H×List MemPlace),DataW.trod enc Tryz.prog w base spare held fuel t cs=some x->Rows.uptoBulk x.1<=1048576->∃a,E.R w (fun b=>b<w.heap.size) cs a
theorem jR:lT bN 9:=by
 intro H enc w base spare held fuel cs x h hb;obtain⟨s,rfl,rfl,_⟩:=DataW.trod_string Tryz.underlying9 h;exact⟨s,rfl,by simp[Rows.uptoBulk] at hb;omega⟩
theorem dK(ht:Tryz.prog.underlying t=some (.slice e))(hc:Tryz.prog.cellsOf e=E.n)(he:lT E e):lT E.list t:=by
 intro H enc w base spare held fuel cs x h hb;rcases DataW.trod_slice ht h with⟨rfl,rfl⟩|⟨a,len,cap,elems,rest,n,rfl,rfl,rfl,_,hlc,hcm,CN,hi,-,-⟩
 ·exact⟨[],aU.fu⟩
 ·simp only[Rows.uptoBulk] at hb
  have hb1:=CT (elems.map (·.1));rw[List.length_map,CN] at hb1
  obtain⟨xs,x9,hx⟩:=CU (Q:=fun i y=>∃cs',E.R w (fun b=>b<w.heap.size) cs' y/\∀k u,cs'[k]? =some u->w.cell? (a.add (i*E.n+k))=some u) len (fun i F5=>by
   obtain⟨y,hy⟩:∃y,elems[i]? =some y:=⟨_,e_ (by omega)⟩
   have h1:=hi i F5;rw[hy,Option.bind_eq_some_iff] at h1;obtain⟨cs',h2,h3⟩:=h1;obtain⟨_,hlen,hcell⟩:=World.cells?_some h2;obtain⟨z,hz⟩:=he H enc w base spare held n cs' y h3 (by have:=hb1.2 i y.1 (by rw[List.getElem?_map,hy];rfl);omega);refine⟨z,cs',hz,fun k u hu=> ?_⟩;have hk:k<cs'.length:=(g_ hu).1;rw[<-ko,<-hc,hcell k (by omega)];exact hu)
  refine⟨xs,aU.zZ ⟨x9,fun hp=>⟨a,rfl,?_,hx⟩⟩ ⟨(fun h=>by cases h),hlc,by omega,hcm⟩⟩;obtain⟨cs',h1,h2⟩:=hx 0 _ (e_ (by omega));have sT:=E.len h1;have:=E.pos;have hh:=h2 0 _ (e_ (by omega));have:=World.block_lt_of_cell? _ _ hh
  rwa [az] at this
theorem oD{γ:Type}{F:aU β}{f:γ->α}{g:γ->β}{f0 f1:Field}(hs:Tryz.prog.underlying t=some (.struct #[f0,f1]))(hmk:∀a b,∃c,f c=a/\g c=b)(xj:f0.offset=0)(F6:f1.offset=E.n)(hc:Tryz.prog.cellsOf t=E.n+F.n)(hc0:Tryz.prog.cellsOf f0.type=E.n)(hc1:Tryz.prog.cellsOf f1.type=F.n)(h0:lT E f0.type)(h1:lT F f1.type):lT (aU.pair E F f g) t:=by
 intro H enc w base spare held fuel cs x h hb;obtain⟨xs,n,rfl,rfl,hl,x9,hg⟩:=DataW.trod_struct hs h
 match xs,x9 with
 |[y0,y1],_=>
  simp only[Rows.uptoBulk,List.map_cons,List.map_nil,Rows.uptoBulkAll] at hb;have k0:=hg 0 f0 rfl;have k1:=hg 1 f1 rfl;obtain⟨a,ha⟩:=h0 H enc w base spare held n _ y0 k0 (by omega);obtain⟨b,hb2⟩:=h1 H enc w base spare held n _ y1 k1 (by omega);obtain⟨c,rfl,rfl⟩:=hmk a b;refine⟨c,_,_,?_,ha,hb2⟩;rw[xj,F6,hc0,hc1,List.drop_zero];rw[List.take_of_length_le (l:=cs.drop E.n) (by rw[List.length_drop];omega),List.take_append_drop]
theorem CV:lT ld 315:=by
 intro H enc w base spare held fuel cs x h hb;obtain⟨p,c1,c2,rfl,⟨rfl,h1⟩,⟨rfl,h2⟩⟩:=oD (E:=bN) (F:=bN) (f:=Prod.fst) (g:=Prod.snd) Tryz.underlying315 (fun a b=>⟨(a,b),rfl,rfl⟩) rfl rfl (by kernel_rfl) (by kernel_rfl) (by kernel_rfl) jR jR H enc w base spare held fuel cs x h hb;exact⟨p,rfl,h1,h2⟩
theorem CW:lT cV 266:=
 oD Tryz.underlying266 (fun a b=>⟨⟨a,b⟩,rfl,rfl⟩) rfl rfl (by kernel_rfl) (by kernel_rfl) (by kernel_rfl) jR (dK Tryz.underlying264 (by kernel_rfl) CV)
theorem Km:lT aX 48:=
 oD Tryz.underlying48 (fun a b=>⟨⟨a,b⟩,rfl,rfl⟩) rfl rfl (by kernel_rfl) (by kernel_rfl) (by kernel_rfl) jR
  (dK Tryz.underlying46 (by kernel_rfl) (dK Tryz.underlying49 (by kernel_rfl) (dK Tryz.underlying50 (by kernel_rfl) (dK Tryz.underlying31 (by kernel_rfl) jR))))
theorem lU(h:(Lit.int .i64 n).wf=true):pH n:=by
 simp only[Lit.wf,Bool.and_eq_true,decide_eq_true_eq] at h;exact h
theorem Jb:Tryz.prog.cellsOf 3=1:=by kernel_rfl
theorem Jc:Tryz.prog.cellsOf 9=1:=by kernel_rfl
theorem Ts:Tryz.prog.cellsOf 127=6:=by kernel_rfl
theorem Tt:Tryz.prog.cellsOf 129=10:=by kernel_rfl
theorem F7:lT ENode 129:=by
 intro H enc w base spare held fuel cs x h hb;obtain⟨xs,n,rfl,rfl,hl,x9,hg⟩:=DataW.trod_struct Tryz.underlying129 h;rw[Tt] at hl
 match xs,x9,cs,hl with
 |[y0,y1,y2,y3,y4],_,[c0,c1,c2,c3,c4,c5,c6,c7,c8,c9],_=>
  simp only[Rows.uptoBulk,List.map_cons,List.map_nil,Rows.uptoBulkAll] at hb;have k0:=hg 0 _ rfl;have k1:=hg 1 _ rfl;have k2:=hg 2 _ rfl;have k3:=hg 3 _ rfl;have k4:=hg 4 _ rfl;simp only[List.getElem?_cons_zero,List.getElem?_cons_succ] at k0 k1 k2 k3 k4;obtain⟨n0,e0,rfl,w0⟩:=DataW.trod_int Tryz.underlying3 k0;obtain⟨n1,e1,rfl,w1⟩:=DataW.trod_int Tryz.underlying3 k1;obtain⟨s2,e2,rfl,w2⟩:=DataW.trod_string Tryz.underlying9 k2;obtain⟨n3,e3,rfl,w3⟩:=DataW.trod_int Tryz.underlying3 k3;obtain⟨zs,n9,-,rfl,-,hzl,hg4⟩:=DataW.trod_struct Tryz.underlying127 k4
  match zs,hzl with
  |[z0,z1,z2,z3,z4,z5],_=>
   simp only[Rows.uptoBulk,List.map_cons,List.map_nil,Rows.uptoBulkAll] at hb;have m0:=hg4 0 _ rfl;have m1:=hg4 1 _ rfl;have m2:=hg4 2 _ rfl;have m3:=hg4 3 _ rfl;have m4:=hg4 4 _ rfl;have m5:=hg4 5 _ rfl;simp only[List.getElem?_cons_zero,List.getElem?_cons_succ] at m0 m1 m2 m3 m4 m5;obtain⟨s4,e4,rfl,w4⟩:=DataW.trod_string Tryz.underlying9 m0;obtain⟨n5,e5,rfl,w5⟩:=DataW.trod_int Tryz.underlying3 m1;obtain⟨n6,e6,rfl,w6⟩:=DataW.trod_int Tryz.underlying3 m2;obtain⟨n7,e7,rfl,w7⟩:=DataW.trod_int Tryz.underlying3 m3;obtain⟨n8,e8,rfl,w8⟩:=DataW.trod_int Tryz.underlying3 m4;obtain⟨n10,e9,rfl,w9⟩:=DataW.trod_int Tryz.underlying3 m5;cases e0;cases e1;cases e2;cases e3;cases e4;cases e5;cases e6;cases e7;cases e8;cases e9;simp only[Rows.uptoBulk] at hb;refine⟨⟨n0,n1,s2,n3,⟨s4,n5,n6,n7,n8,n10⟩⟩,rfl,lU w0,lU w1,?_,lU w3,?_,lU w5,lU w6,lU w7,lU w8,lU w9⟩
   ·show s2.size<=1048576
    simp at hb;omega
   ·show s4.size<=1048576
    simp at hb;omega
theorem CX(h:(Lit.int .u8 n).wf=true):∃b:UInt8,n=(b.toNat:Int):=by
 simp only[Lit.wf,Bool.and_eq_true,decide_eq_true_eq] at h;have h1:0<=n/\n<=255:=h;refine⟨UInt8.ofNat n.toNat,?_⟩;rw[UInt8.toNat_ofNat'];omega
theorem ya(ht:Tryz.prog.underlying t=some (.slice e))(ho:lT E.list t)(hv:Value.okWide Tryz.prog w r b0 t v)(h:DataW.Trod enc Tryz.prog w base spare held t v d p)(hb:Rows.uptoBulk d<=1048576):
 ∃A c xs,v= .slice A xs.length c/\bX A xs.length c/\bn E w (fun b=>b<w.heap.size) A xs.length xs:=by
 obtain⟨a0,len0,xp,rfl⟩:=okWide_slice ht hv;obtain⟨fuel,hf⟩:=h;obtain⟨xs,hx⟩:=ho H enc w base spare held fuel _ (d,p) hf hb;obtain⟨A,c,e,h1,h2⟩:=aU.av (E:=E) hx;exact⟨A,c,xs,e,h1,h2⟩
theorem Od(hv:Value.okWide Tryz.prog w r b0 27 v)(h:DataW.Trod enc Tryz.prog w base spare held 27 v d p)(hb:Rows.uptoBulk d<=1048576):
 ∃(m:M.dQ) (A:Option Addr) (c:Nat),v= .agg #[.int .u8 (m.d.f.toNat:Int),.int .u8 (m.d.c.toNat:Int),.int .u8 (m.d.r.toNat:Int),.int .u8 (m.d.e.toNat:Int),.int .u8 (m.d.s.toNat:Int),.slice A m.aH.length c]/\bX A m.aH.length c/\bn aX w (fun b=>b<w.heap.size) A m.aH.length m.aH:=by
 obtain⟨cs,rfl,hsz⟩:=okWide_struct Tryz.underlying27 hv;obtain⟨l⟩:=cs
 match l,hsz.trans (show Tryz.prog.cellsOf 27=6 by kernel_rfl) with
 |[c0,c1,c2,c3,c4,c5],_=>
  obtain⟨fuel,hf⟩:=h;obtain⟨xs,n,-,hx,-,x9,hg⟩:=DataW.trod_struct Tryz.underlying27 hf
  match xs,x9 with
  |[y0,y1],_=>
   simp only[Prod.mk.injEq] at hx;obtain⟨rfl,rfl⟩:=hx;simp only[Rows.uptoBulk,List.map_cons,List.map_nil,Rows.uptoBulkAll] at hb;have k0:=hg 0 _ rfl;have k1:=hg 1 _ rfl;simp only[Value.cells,List.getElem?_cons_zero,List.getElem?_cons_succ] at k0 k1;obtain⟨zs,n9,-,rfl,-,hzl,hg4⟩:=DataW.trod_struct Tryz.underlying24 k0
   match zs,hzl with
   |[z0,z1,z2,z3,z4],_=>
    have m0:=hg4 0 _ rfl;have m1:=hg4 1 _ rfl;have m2:=hg4 2 _ rfl;have m3:=hg4 3 _ rfl;have m4:=hg4 4 _ rfl;simp only[List.getElem?_cons_zero,List.getElem?_cons_succ] at m0 m1 m2 m3 m4;obtain⟨n0,e0,-,w0⟩:=DataW.trod_int Tryz.underlying5 m0;obtain⟨n1,e1,-,w1⟩:=DataW.trod_int Tryz.underlying5 m1;obtain⟨n2,e2,-,w2⟩:=DataW.trod_int Tryz.underlying5 m2;obtain⟨n3,e3,-,w3⟩:=DataW.trod_int Tryz.underlying5 m3;obtain⟨n4,e4,-,w4⟩:=DataW.trod_int Tryz.underlying5 m4;cases e0;cases e1;cases e2;cases e3;cases e4;obtain⟨b0,rfl⟩:=CX w0;obtain⟨b1,rfl⟩:=CX w1;obtain⟨b2,rfl⟩:=CX w2;obtain⟨b3,rfl⟩:=CX w3;obtain⟨b4,rfl⟩:=CX w4;obtain⟨aH,hs⟩:=dK Tryz.underlying25 (by kernel_rfl) Km H enc w base spare held n _ y1 k1 (by omega);obtain⟨A,c,rfl,h1,h2⟩:=aU.av (E:=aX) hs;exact⟨⟨⟨b0,b1,b2,b3,b4⟩,aH⟩,A,c,rfl,h1,h2⟩
end
section
open Go Go.RowKit
def Xh(v:Value)(w:World):Prop:=∃g,v= .pointer (some ⟨g,0,none⟩)/\w.heap.size<=g
def jai(F:List Nat)(n:Nat)(vs:Nat->Value):Prop:=∀i j,F.contains i=true->F.contains j=true->i<n->j<n->i≠j->vs i≠vs j
section
variable (P:Program) (ops:Array Oper) (R:World->World->Prop) (B:Nat->Option (Value->World->Prop)) (late:List Nat) (w0:World) (F:List Nat)
end
section
variable {P:Program} {ops:Array Oper} {R:World->World->Prop} {B:Nat->Option (Value->World->Prop)} {late:List Nat} {w0:World} {n:Nat} {F:List Nat}
structure jbG(P:Program)(ops:Array Oper)(R:World->World->Prop)(B:Nat->Option (Value->World->Prop))(late:List Nat)(w0:World)(F:List Nat)(n:Nat)(Q:Act->World->Prop)(a:Act)(c:Nat->Value)(k:Nat):Prop where
 pure:∀i o,k<=i->i<n->ops[i]? =some o->late.contains i=true->B i=none->∀vs w,(execOp (bE ops B a c vs i).eval o).run P w= .ok (.value (c i)) w
 step:∀i o,k<=i->i<n->ops[i]? =some o->(late.contains i=false\/(B i).isSome=true)->∀vs w,oF ops R B w0 i vs w->ft P ops o (bE ops B a c vs i) w fun v w'=>R w w'/\(∀φ,B i=some φ->φ v w')/\(B i=none->v=c i)/\(F.contains i=true->Xh v w)
 last:∀vs w,R w0 w->(∀j φ,j<n->B j=some φ->φ (vs j) w)->jai F n vs->Q (bE ops B a c vs n) w
end
theorem Kn{w a b:World}(h:Below w.heap.size w a)(k:aj a b):Below w.heap.size w b:=h.trans (k.mono h.size)
theorem aj.grown{a b:World}(h:aj a b)(row:Option Nat):a.grownBy b row:=⟨h.os,h.tape,h.output,h.size,fun k hk _=>h.block k hk⟩
theorem aV(w:World)(g o:Nat)(u:Value):w.grownBy (w.setCell ⟨g,o,none⟩ u) (some g):=⟨rfl,rfl,rfl,by simp[World.setCell],fun k _ hne=>Below.heap_setCell _ _ _ _ (fun e=>hne (by rw[e]))⟩
theorem ar.aK{w w':World}{g g':Nat}{t:TypeId}{cs:Array Value}(h:ar w g' t cs)(hg:w.grownBy w' (some g))(hne:g'≠g):ar w' g' t cs:=(hg.block g' h.lt (fun e=>hne (by injection e))).trans h
theorem rZ{w w':World}{B g:Nat}(hg:w.grownBy w' (some g))(hB:B<=w.heap.size)(h:B<=g):Below B w w':=(Below.refl _ _).grown hg hB (fun k hk=>by cases hk;exact h)
theorem ai{w w1 w2:World}{g:Nat}(h:Below w.heap.size w w1)(hg:w1.grownBy w2 (some g))(dS:w.heap.size<=g):Below w.heap.size w w2:=h.trans (rZ hg h.size dS)
theorem ar.ix{t:TypeId}{b:Nat}:∀(vs:List Value) (o:Nat) (cs:Array Value) (w:World),ar w b t cs->o+vs.length<=cs.size->
 ∃cs2,ar (w.setCells b o vs) b t cs2/\cs2.size=cs.size/\∀i,cs2[i]? =if o<=i/\i<o+vs.length then vs[i-o]?else cs[i]?
 |[],o,cs,w,h,_=>⟨cs,h,rfl,fun i=>by simp;omega⟩
 |v::vs,o,cs,w,h,hs=>by
  simp only[List.length_cons] at hs;obtain⟨cs2,h1,h2,h3⟩:=ar.ix vs (o+1) _ _ (h.fK o v) (by simp;omega);refine⟨cs2,h1,by rw[h2];simp,fun i=> ?_⟩;rw[h3];by_cases hi:o+1<=i/\i<o+1+vs.length
  ·rw[if_pos hi,if_pos (by simp only[List.length_cons];omega),show i-o=(i-(o+1))+1 by omega,List.getElem?_cons_succ]
  ·rw[if_neg hi]
   by_cases ho:i=o
   ·subst ho
    rw[if_pos (by simp only[List.length_cons];omega),Nat.sub_self,Array.getElem?_setIfInBounds,if_pos rfl,if_pos (by omega),List.getElem?_cons_zero]
   ·rw[if_neg (by simp only[List.length_cons];omega)]
    simp[Ne.symm ho]
theorem ar.Xi{w:World}{t:TypeId}{b:Nat}{cs cs':Array Value}(h:ar w b t cs)(hs:cs'.size=cs.size):ar (w.setCells b 0 cs'.toList) b t cs':=by
 obtain⟨cs2,h1,h2,h3⟩:=ar.ix cs'.toList 0 cs w h (by simp;omega)
 have e:cs2=cs':=by
  apply Array.ext_getElem?;intro i;rw[h3];by_cases hi:i<cs'.size
  ·rw[if_pos (by simp;omega)];simp
  ·rw[if_neg (by simp;omega),Array.getElem?_eq_none (by omega),Array.getElem?_eq_none (by omega)]
 rwa [e] at h1
theorem dL(b:Nat):∀(vs:List Value) (o:Nat) (w:World),w.grownBy (w.setCells b o vs) (some b)
 |[],_,w=>(aj.refl w).grown _
 |v::vs,o,w=>(aV w b o v).trans (dL b vs (o+1) _)
theorem ah{P:Program}{ops:Array Oper}{rest:List Oper}{op:Oper}{a:Act}{w:World}{Q:Exit->Act->World->Prop}{t:TypeId}{cs cs':Array Value}(hgd:op.guard=none)(ty:TypeId)(x y:Operand)(ho:op.op= .store ty x y)(b:Nat)(hx:a.eval x= .pointer (some ⟨b,0,none⟩))(hy:a.eval y= .agg cs')(hk:ar w b t cs)(hs:cs'.size=cs.size)(hi:(P.info? ty).map (·.size)=some cs'.size)(h1:cs'.all (·.oneCell')=true)(h:∀w',ar w' b t cs'->w.grownBy w' (some b)->wpList P ops Q rest (a.put op.dst undef) w'):wpList P ops Q (op::rest) a w:=
 wpList_store_mid hgd ty x y ho b 0 cs' hx hy (hk.there cs'.size (by omega)) hi h1 (h _ (hk.Xi hs) (dL b _ 0 w))
section
variable {α:Type} {E:aU α} {T:TypeId} {w w':World} {S:Nat->Prop} {B b:Nat} {v:Value} {xs:List α} {cs:List Value} {x:α}
theorem aD.aK(h:aD E T w B S v xs)(hg:w.grownBy w' (some b))(hne:v.ownBlock≠some b)(hS:¬S b):aD E T w' B S v xs:=
 h.stay hg.size (fun k hk hc=>hg.block k hk (fun e=>by
  injection e with e;subst e;exact hc.elim hS hne))
theorem aU.aK(h:E.R w S cs x)(hg:w.grownBy w' (some b))(hS:¬S b)(ht:∀k,S k->k<w.heap.size):E.R w' S cs x:=
 E.keep h (fun _ h=>h) (fun p hp=>World.cell?_of_block (hg.block _ (ht _ hp) (fun e=>by
  injection e with e;exact hS (e▸hp))))
theorem aD.old(h:aD E T w B S v xs):v.ownBlock≠some w.heap.size:=fun e=>by
 have:=(h.aJ e).2;omega
end
section
variable {α:Type} {E:aU α} {T:TypeId} {w w':World} {S:Nat->Prop} {B b:Nat} {v:Value} {xs:List α} {cs:List Value} {x:α}
theorem fw{g:Nat}{t:TypeId}{ca:Array Value}(hg:ar w g t ca)(hr:E.R w S ca.toList x):∀j y,[x][j]? =some y->∃es,E.R w S es y/\∀i u,es[i]? =some u->w.cell? ((⟨g,0,none⟩:Addr).add (j*E.n+i))=some u:=by
 intro j y hy
 have hj:j=0:=by
  have:=(g_ hy).1;simp at this;exact this
 subst hj;simp at hy;subst hy;refine⟨_,hr,fun i u hu=> ?_⟩;rw[Addr.add_lit,Nat.zero_mul,Nat.zero_add,Nat.zero_add,hg.cell];simpa using hu
theorem aD.shape(h:aD E T w B S v xs):∃A c,v= .slice A xs.length c:=by
 rcases h.form with⟨rfl,rfl⟩|⟨g,cap,rfl,_⟩
 ·exact⟨_,_,rfl⟩
 ·exact⟨_,_,rfl⟩
theorem aD.widen{S2:Nat->Prop}(h:aD E T w B S v xs)(h2:∀b,S2 b->b<w.heap.size)(hn:∀g,v.ownBlock=some g->¬S2 g):aD E T w B (fun b=>S b\/S2 b) v xs:=
 h.wide (fun _ h=> .inl h) (fun g hg h'=>h'.elim (h.apart g hg) (hn g hg)) (fun b h'=>h'.elim (h.there b) (h2 b))
end
end
section
open Go.RowKit
def shStr(u:Value):Prop:=∃s,u= .string s
def shSl(u:Value):Prop:=∃A n c,u= .slice A n c
def TrimI(LY et st b:Nat)(z:Value)(sh:Value->Prop):Prop:=(LY=94/\et=9/\st=31/\b=16/\z=(.string ByteArray.empty)/\sh=shStr)\/(LY=98/\et=31/\st=50/\b=24/\z=(.slice none 0 0)/\sh=shSl)\/(LY=100/\et=50/\st=49/\b=24/\z=(.slice none 0 0)/\sh=shSl)\/(LY=42/\et=49/\st=46/\b=24/\z=(.slice none 0 0)/\sh=shSl)
theorem trimI1:TrimI 94 9 31 16 (.string ByteArray.empty) shStr:= .inl ⟨rfl,rfl,rfl,rfl,rfl,rfl⟩
theorem trimI2:TrimI 98 31 50 24 (.slice none 0 0) shSl:= .inr (.inl ⟨rfl,rfl,rfl,rfl,rfl,rfl⟩)
theorem trimI3:TrimI 100 50 49 24 (.slice none 0 0) shSl:= .inr (.inr (.inl ⟨rfl,rfl,rfl,rfl,rfl,rfl⟩))
theorem trimI4:TrimI 42 49 46 24 (.slice none 0 0) shSl:= .inr (.inr (.inr ⟨rfl,rfl,rfl,rfl,rfl,rfl⟩))
theorem trim_info(h:TrimI LY et st b z sh):(Tryz.prog.info? et).map (fun i=>(i.zero,i.size,i.bytes))=some (some z,1,b):=by
 rcases h with⟨rfl,rfl,rfl,rfl,rfl,rfl⟩|⟨rfl,rfl,rfl,rfl,rfl,rfl⟩|⟨rfl,rfl,rfl,rfl,rfl,rfl⟩|⟨rfl,rfl,rfl,rfl,rfl,rfl⟩<;>kernel_rfl
theorem trim_under(h:TrimI LY et st b z sh):Tryz.prog.underlying st=some (.slice et):=by
 rcases h with⟨rfl,rfl,rfl,rfl,rfl,rfl⟩|⟨rfl,rfl,rfl,rfl,rfl,rfl⟩|⟨rfl,rfl,rfl,rfl,rfl,rfl⟩|⟨rfl,rfl,rfl,rfl,rfl,rfl⟩<;>kernel_rfl
theorem trim_any(hI:TrimI LY et st b z sh)(E:aU α)(F:aU β)(hE:E.n=1)(hF:F.n=1)(kZ:∀W S u y,F.R W S [u] y->sh u)(f:α->β)(em:β->Bool)(fi fe:FuncId)(ci ce:Array Value)(A:Option Addr)(m c:Nat)(xs:List α)(S:Nat->Prop)(w:World)(h:bn E w S A m xs)(hS:∀b,S b->b<w.heap.size)(aI:bX A m c)(iQ:Enters Tryz.prog fi)(dS:Enters Tryz.prog fe)(dr:∀W u x,Below w.heap.size w W->E.R W S [u] x->x∈xs->Calls Tryz.prog fi (#[u]++ci) W (gX F W (f x)))(Fu:∀W SW u y,Below w.heap.size w W->F.R W SW [u] y->Calls Tryz.prog fe (#[u]++ce) W fun e w'=>e= .returned (.bool (em y))/\Below W.heap.size W w'):
 Calls Tryz.prog LY #[.slice A m c,.func (.func fi) #[] ci,.func (.func fe) #[] ce] w (gX F.list w (M.bw em (xs.map f))):=by
 have hlen:=h.len;have hm:=aI.le;obtain⟨it,hit,hz,hs1,hb1⟩:=info_parts (trim_info hI);have HU:=q_ (trim_under hI);obtain⟨ON,hON⟩:∃ON:World->(Nat->Prop)->Value->List β->Prop,ON=fun wr S v l=>aD F et wr w.heap.size S v l:=⟨_,rfl⟩
 have HO:=q_ hON;have H:=q_ h;have HS:=q_ hS;have HI:=q_ dr;have HE:=q_ Fu;have HL:=q_ hlen;have GI:=q_ iQ;have GE:=q_ dS;have gi:=fun args w=>iQ args w;have ge:=fun args w=>dS args w;have Q1:=q_ hE;have SH:=q_ kZ;have Q2:=q_ hF;have J1:=q_ hit;have J2:=q_ hz;have J3:=q_ hs1;have J4:=q_ hb1;clear kZ h hS dr Fu hlen aI iQ dS hE hF hit hz hs1 hb1 hON;rcases hI with⟨rfl,rfl,rfl,rfl,rfl,rfl⟩|⟨rfl,rfl,rfl,rfl,rfl,rfl⟩|⟨rfl,rfl,rfl,rfl,rfl,rfl⟩|⟨rfl,rfl,rfl,rfl,rfl,rfl⟩
 all_goals
  first|go_enter Tryz.func94,Tryz.ntmps94|go_enter Tryz.func98,Tryz.ntmps98|go_enter Tryz.func100,Tryz.ntmps100|go_enter Tryz.func42,Tryz.ntmps42
  go_wp2_with fail;go_loopw [7,12] (fun v x wr=>∃(k:Nat) (S':Nat->Prop),k<=m/\x= .int .i64 k/\ON wr S' v ((xs.take k).map f)/\(∀b,S' b->w.heap.size<=b)/\Below w.heap.size w wr) (fun _ x _=>m-(intOf x).toNat)
  case atStart=>exact⟨0,fun _=>False,by omega,rfl,by rw[HO.o];exact aD.nil (fun b hb=>hb.elim),(fun b hb=>hb.elim),Below.refl _ _⟩
  case round=>
   obtain⟨k,S',hk,rfl,hown,dS,bS⟩:=hrel;rw[HO.o] at hown;have OW:=q_ hown;have SG:=q_ dS;have BW:=q_ bS;have gi:=GI.o;have ge:=GE.o;unfold Enters at gi ge;clear hown dS bS;by_cases hlt:k<m
   ·obtain⟨ad,x,u,rfl,hb,hx,hr,hc⟩:=(H.o.dB BW.o HS.o).in1 Q1.o hlt
    have C:=q_ (HI.o wr u x BW.o hr (m_ hx))
    have HT:=q_ (show(xs.take (k+1)).map f=(xs.take k).map f++[f x] from by
     rw[List.take_add_one,hx];simp)
    have qV:=q_ (show((xs.take k).map f).length<=m from by rw[List.length_map,List.length_take];omega);clear hx hr;go_wp2_with fail;refine C.o.mono ?_;rintro x w2 ⟨u2,rfl,hr2,hb2⟩
    first|obtain⟨s2,rfl⟩:=SH.o _ _ _ _ hr2|obtain⟨A2,n2,c2,rfl⟩:=SH.o _ _ _ _ hr2
    have hz2:=hb2.size;have O2:=q_ (aD.wide (OW.o.below hb2) (S':=fun b=>S' b\/New wr w2 b) (fun b h=> .inl h) (fun g hg h=>h.elim (OW.o.apart g hg) (fun h=>absurd h.1 (by have:=(OW.o.aJ hg).2;omega))) (fun b h=>h.elim (fun h=>l_ (OW.o.there b h) hz2) (fun h=>h.2)));have Sx:=q_ (show∀b,(S' b\/New wr w2 b)->w.heap.size<=b from fun b h=>h.elim (SG.o b) (fun h=>t_ BW.o.size h.1));have R2:=q_ (aU.wide hr2 (S':=fun b=>S' b\/New wr w2 b) (fun b h=> .inr h));have B2:=q_ (BW.o.trans (hb2.mono BW.o.size));clear hr2 hb2;generalize (xs.take k).map f=acc at*;go_wp2_with (at_builtin;refine ay rfl (.tmp 16) (.tmp 20) _ rfl it _ _ HU.o J1.o J2.o (J3.o.trans Q2.o.symm) J4.o (by rw[Q2.o];rfl) rfl (O2.o.alloc _) ⟨w2.heap.size,0,none⟩ 1 1 [f x] rfl rfl (cH R2.o O2.o.there) (by have:=qV.o;omega) (by omega) (by have:=B2.o.size;simp;omega) ?_;intro o4 w4 bC hb4 hg4 _;have O4:=q_ bC;have W4:=q_ ((B2.o.alloc B2.o.size _).trans hb4);clear bC hb4 hg4);go_roundw
    case rel=>exact⟨k+1,_,by omega,by go_num,by rw[HO.o,HT.o];exact O4.o,Sx.o,W4.o⟩
    case measure=>simp[intOf];omega
   ·have Fv:k=m:=by omega
    subst Fv;have HT:=q_ (show(xs.take k).map f=xs.map f from by rw[List.take_of_length_le (by have:=HL.o;omega)]);have O1:=q_ (HT.o▸OW.o);have qV:=q_ (show(xs.map f).length=k from by rw[List.length_map];exact HL.o);clear hlt;go_wp2_with fail;obtain⟨wo,rfl⟩:∃wo:World,wo=wr:=⟨_,rfl⟩
    generalize xs.map f=ys at*;go_loopw [7] (fun v wx=>∃n:Nat,n<=k/\ON wx S' v (ys.take n)/\M.bw em ys=M.bw em (ys.take n)/\Below w.heap.size w wx) (fun v _=>lenOf v)
    case atStart=>exact⟨k,n_,by rw[HO.o,List.take_of_length_le (by rw[qV.o];exact n_)];exact O1.o,by rw[List.take_of_length_le (by rw[qV.o];exact n_)],BW.o⟩
    case round=>
     obtain⟨n,hn,hown,Ak,bS⟩:=hrel;rw[HO.o] at hown;have oG:(ys.take n).length=n:=by rw[List.length_take];have:=qV.o;omega
     have B3:=q_ bS;have TR:=q_ Ak;clear bS Ak;rcases Nat.eq_zero_or_pos n with h0|h0
     ·subst h0
      have e0:=List.eq_nil_of_length_eq_zero oG;rw[e0] at hown
      obtain⟨A3,c3,rfl⟩:∃A3 c3,u7= .slice A3 0 c3:=by
       rcases hown.form with⟨e,_⟩|⟨g,cap,e,_⟩
       ·exact⟨_,_,e⟩
       ·exact⟨_,_,e⟩
      have O3:=q_ hown;have TE:=q_ (TR.o.trans (by rw[e0]));clear hown e0 oG hn;go_wp2_with fail;go_ret;rw[TE.o];exact⟨_,rfl,aD.reads O3.o (fun b hb=>⟨SG.o b hb,O3.o.there b hb⟩) (fun g hg=>⟨(O3.o.aJ hg).1,(O3.o.aJ hg).2⟩) (Nat.zero_le _),B3.o⟩
     ·obtain⟨j,rfl⟩:∃j,n=j+1:=⟨n-1,by omega⟩
      obtain⟨g,cap,y,u,hv,hy,hr,hc,dC,hcm⟩:=hown.in1 Q2.o (k:=j) (by rw[oG];omega);rw[oG] at hv dC;subst hv
      first|obtain⟨s2,rfl⟩:=SH.o _ _ _ _ hr|obtain⟨A2,n2,c2,rfl⟩:=SH.o _ _ _ _ hr
      have C:=q_ (HE.o wr _ _ y B3.o hr);have O3:=q_ hown;have HY:=q_ hy
      have Oe:=q_ (show ys.take (j+1)=ys.take j++[y] from by
       rw[List.take_add_one];rw[List.getElem?_take_of_lt (by omega)] at hy;rw[hy];rfl)
      have Sy:=q_ oG;clear hown hy hr oG;cases hb:em y
      ·have HB:=q_ hb
       clear hb;go_wp2_with fail;refine C.o.mono ?_;rintro x w2 ⟨rfl,hb2⟩;rw[HB.o];have TE:=q_ (show M.bw em ys=ys.take (j+1) from by rw[TR.o,Oe.o,M.cI,if_neg (by rw[HB.o];simp)]);have W2:=q_ (B3.o.trans (hb2.mono B3.o.size));have O4:=q_ (O3.o.below hb2);clear hb2;go_wp2;go_ret;rw[TE.o];exact⟨_,rfl,aD.reads O4.o (fun b hb=>⟨SG.o b hb,O4.o.there b hb⟩) (fun g hg=>⟨(O4.o.aJ hg).1,(O4.o.aJ hg).2⟩) (by rw[Sy.o];omega),W2.o⟩
      ·have HB:=q_ hb
       have TE:=q_ (show M.bw em ys=M.bw em (ys.take j) from by rw[TR.o,Oe.o,M.cI,if_pos hb]);clear hb;go_wp2_with fail;refine C.o.mono ?_;rintro x w2 ⟨rfl,hb2⟩;rw[HB.o];have W2:=q_ (B3.o.trans (hb2.mono B3.o.size));have O4:=q_ ((O3.o.below hb2).take j (by omega));have HT:=q_ (show(ys.take (j+1)).take j=ys.take j from by rw[List.take_take,Nat.min_eq_left (by omega)]);clear hb2;go_wp2_with fail;go_roundw
       case rel=>exact⟨j,by omega,by rw[HO.o,<-HT.o];exact O4.o,TE.o,W2.o⟩
       case measure=>simp[lenOf]
end
section
open Go Go.RowKit Go.BigFrame
theorem aD.empty{T:TypeId}{B:Nat}{S:Nat->Prop}(hB:B<=w.heap.size)(hS:∀b,S b->b<w.heap.size):aD E T (w.alloc (.cells #[] T)) B S (.slice (some ⟨w.heap.size,0,none⟩) 0 0) []:=
 ⟨⟨[],⟨by simp,.inr ⟨w.heap.size,0,#[],rfl,hB,by simpa using(MapKept.heap_alloc w (.cells #[] T)).1,by simp,by simp[maxLen],by simp,by simp⟩⟩,fun j x h=>by simp at h⟩,fun g h hs=>by
   simp[Value.ownBlock] at h;have:=hS g hs;omega,fun b h=>by have:=hS b h;simp;omega⟩
theorem ji:(Tryz.prog.info? 9).map (fun i=>(i.zero,i.size,i.bytes))=some (some (.string ByteArray.empty),1,16):=by kernel_rfl
theorem lV:(Tryz.prog.info? 31).map (fun i=>(i.zero,i.size,i.bytes))=some (some (.slice none 0 0),1,24):=by kernel_rfl
theorem lW:(Tryz.prog.info? 50).map (fun i=>(i.zero,i.size,i.bytes))=some (some (.slice none 0 0),1,24):=by kernel_rfl
theorem lX:(Tryz.prog.info? 49).map (fun i=>(i.zero,i.size,i.bytes))=some (some (.slice none 0 0),1,24):=by kernel_rfl
theorem lY:(Tryz.prog.info? 48).map (fun i=>(i.zero,i.size,i.bytes))=some (some (.agg #[.string ByteArray.empty,.slice none 0 0]),2,40):=by kernel_rfl
def CloneI(LY et st b:Nat)(z:Value)(sz:Nat):Prop:=(LY=78/\et=9/\st=31/\b=16/\z= .string ByteArray.empty/\sz=1)\/(LY=276/\et=31/\st=50/\b=24/\z= .slice none 0 0/\sz=1)\/(LY=275/\et=50/\st=49/\b=24/\z= .slice none 0 0/\sz=1)\/(LY=274/\et=49/\st=46/\b=24/\z= .slice none 0 0/\sz=1)\/(LY=171/\et=48/\st=25/\b=40/\z= .agg #[.string ByteArray.empty,.slice none 0 0]/\sz=2)
theorem cloneIS:CloneI 78 9 31 16 (.string ByteArray.empty) 1:= .inl ⟨rfl,rfl,rfl,rfl,rfl,rfl⟩
theorem cloneIC:CloneI 276 31 50 24 (.slice none 0 0) 1:= .inr (.inl ⟨rfl,rfl,rfl,rfl,rfl,rfl⟩)
theorem cloneIR:CloneI 275 50 49 24 (.slice none 0 0) 1:= .inr (.inr (.inl ⟨rfl,rfl,rfl,rfl,rfl,rfl⟩))
theorem cloneIF:CloneI 274 49 46 24 (.slice none 0 0) 1:= .inr (.inr (.inr (.inl ⟨rfl,rfl,rfl,rfl,rfl,rfl⟩)))
theorem cloneIG:CloneI 171 48 25 40 (.agg #[.string ByteArray.empty,.slice none 0 0]) 2:= .inr (.inr (.inr (.inr (⟨rfl,rfl,rfl,rfl,rfl,rfl⟩))))
theorem clone_info(hI:CloneI LY et st b z sz):(Tryz.prog.info? et).map (fun i=>(i.zero,i.size,i.bytes))=some (some z,sz,b):=by
 rcases hI with⟨rfl,rfl,rfl,rfl,rfl,rfl⟩|⟨rfl,rfl,rfl,rfl,rfl,rfl⟩|⟨rfl,rfl,rfl,rfl,rfl,rfl⟩|⟨rfl,rfl,rfl,rfl,rfl,rfl⟩|⟨rfl,rfl,rfl,rfl,rfl,rfl⟩
 ·exact ji
 ·exact lV
 ·exact lW
 ·exact lX
 ·exact lY
theorem clone_under(hI:CloneI LY et st b z sz):Tryz.prog.underlying st=some (.slice et):=by
 rcases hI with⟨rfl,rfl,rfl,rfl,rfl,rfl⟩|⟨rfl,rfl,rfl,rfl,rfl,rfl⟩|⟨rfl,rfl,rfl,rfl,rfl,rfl⟩|⟨rfl,rfl,rfl,rfl,rfl,rfl⟩|⟨rfl,rfl,rfl,rfl,rfl,rfl⟩<;>kernel_rfl
theorem clone_any(hI:CloneI LY et st b z sz)(E:aU α)(hE:E.n=sz)(A:Option Addr)(m c:Nat)(xs:List α)(S:Nat->Prop)(w:World)(hS:∀b,S b->b<w.heap.size)(aI:bX A m c)(hl:bn E w S A m xs):
 Calls Tryz.prog LY #[.slice A m c] w fun e w'=>∃v,e= .returned v/\aD E et w' w.heap.size S v xs/\Below w.heap.size w w':=by
 have hm:=aI.le;obtain⟨it,hit,hz,hs1,hb1⟩:=info_parts (clone_info hI);have hu:=clone_under hI;cases A with
 |none=>
  obtain⟨rfl,rfl⟩:=aI.1 rfl;have hx:xs=[]:=List.eq_nil_of_length_eq_zero hl.1;subst hx;have HO:=q_ (aD.nil (E:=E) (T:=et) (B:=w.heap.size) hS);have ke:=fun W=>Lib.run_eql_slice_nil (P:=Tryz.prog) W st et none 0 0 0 0 hu;have HU:=q_ hu;clear hl aI hS hu;rcases hI with⟨rfl,rfl,rfl,rfl,rfl,rfl⟩|⟨rfl,rfl,rfl,rfl,rfl,rfl⟩|⟨rfl,rfl,rfl,rfl,rfl,rfl⟩|⟨rfl,rfl,rfl,rfl,rfl,rfl⟩|⟨rfl,rfl,rfl,rfl,rfl,rfl⟩
  all_goals
   first|go_enter Tryz.func78,Tryz.ntmps78|go_enter Tryz.func276,Tryz.ntmps276|go_enter Tryz.func275,Tryz.ntmps275|go_enter Tryz.func274,Tryz.ntmps274|go_enter Tryz.func171,Tryz.ntmps171
   go_wp2;go_ret;exact⟨_,rfl,HO.o,Below.refl _ _⟩
 |some ad=>
  have HS:=q_ hS;have HL:=q_ hl;have J1:=q_ hit;have J2:=q_ hz;have J3:=q_ (hs1.trans hE.symm);have J4:=q_ hb1;have HO:=q_ (aD.empty (E:=E) (T:=et) (w:=w) (B:=w.heap.size) (n_) hS);have HB:=q_ ((Below.refl _ w).alloc (n_) (.cells #[] et));have HZ:=q_ (show(#[]:Array Value).size=0 from rfl);have HE:=q_ hE;have ke:=fun W=>Lib.run_eql_slice_nil (P:=Tryz.prog) W st et (some ad) m c 0 0 hu;have HU:=q_ hu;clear hu hl aI hS hit hz hs1 hb1 hE;rcases hI with⟨rfl,rfl,rfl,rfl,rfl,rfl⟩|⟨rfl,rfl,rfl,rfl,rfl,rfl⟩|⟨rfl,rfl,rfl,rfl,rfl,rfl⟩|⟨rfl,rfl,rfl,rfl,rfl,rfl⟩|⟨rfl,rfl,rfl,rfl,rfl,rfl⟩
  all_goals
   first|go_enter Tryz.func78,Tryz.ntmps78|go_enter Tryz.func276,Tryz.ntmps276|go_enter Tryz.func275,Tryz.ntmps275|go_enter Tryz.func274,Tryz.ntmps274|go_enter Tryz.func171,Tryz.ntmps171
   go_wp2_with (at_builtin;refine ay (xs:=[]) rfl (.tmp 5) (.tmp 6) _ rfl it _ _ HU.o J1.o J2.o J3.o J4.o (by rw[HE.o];rfl) rfl HO.o ad m c xs rfl HL.o.1 (fun j y hy=>by
    have h0:0<m:=by have:=(g_ hy).1;rw[HL.o.1] at this;omega
    obtain⟨ad',e,hb,he⟩:=HL.o.2 h0;cases e;obtain⟨es,hr,hi⟩:=he j y hy;exact⟨es,aU.below hr (aj.alloc _ _) HS.o,fun i u hu=>((aj.alloc w _).cell (by rw[az];exact HS.o _ hb)).trans (hi i u hu)⟩) (by simp;omega) (by omega) (by simp) ?_;intro o4 w4 bC hb4 hg4 _;have O4:=q_ bC;have B4:=q_ (HB.o.trans hb4);clear bC hb4 hg4)
   go_ret;exact⟨_,rfl,O4.o,B4.o⟩
end
end Go.Proofs.YtpohlhkgbmdieaaGreatDoor
