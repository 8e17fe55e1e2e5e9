/- Part 46 of the proof. -/
import Derived.Test.YtnocnbklhikmnaaGreatDoorW40
import Derived.Test.YtnocnbklhikmnaaGreatDoorW45
import Derived.Test.YtnocnbklhikmnaaGreatDoorCards
import Derived.LaidMore
import Derived.Lay
import Derived.SevenTiedAt
import Derived.Stop.Joined
import Derived.Deep.DeepHandedRow
import Derived.Lib.LaidTab
import Derived.Shelf.Vars
import Derived.Test.YtnocnbklhikmnaaGreatDoorTie
set_option linter.unusedVariables false
set_option maxRecDepth 1000000
set_option maxHeartbeats 16000000
namespace Go.Proofs.YtnocnbklhikmnaaGreatDoor
variable{w w':World}
section
open Go Go.RowKit Go.BigFrame Go.Maps Go.WideMaps
theorem Ps.reads_err{L:List UInt8}{er:Int}(h:Ps.Reads L (.error er)):er=2\/er=80\/er=81:=by
 obtain⟨x,hx,h⟩:=h;cases x with
 |error e=>
  cases h;rcases Ad.scanX_err hx _ rfl with h|h<;>omega
 |ok toks=>
  obtain⟨res,hr,ho⟩:=h;unfold Ps.outR at ho;split at ho
  ·split at ho
   ·split at ho
    ·cases ho
    ·cases ho;omega
   ·cases ho;omega
  ·cases ho;omega
def ParseX(w:World)(out:Except Int (List M.Node))(e:Ending)(w':World):Prop:=Below w.heap.size w w'/\∃(n:List M.Node) (A:Option Addr) (c:Nat) (er l cc:Int),e= .returned (.tuple #[.slice A n.length c,.int .i64 er,.int .i64 l,.int .i64 cc])/\SOk A n.length c/\LAt ENode w' (New w w') A n.length n/\((er=0/\out= .ok n/\M.isA n 3=true)\/(er≠0/\out= .error er/\n=[]))
theorem parseExpr_any(s:ByteArray)(w:World)(hs:s.size<=65536)(out:Except Int (List M.Node))(h:Ps.Reads s.data.toList out):
 Calls Tryz.prog 7 #[.string s] w (ParseX w out):=by
 have K:=q_ (read_any s w hs out h);have HE:=q_ (fun er (e:out= .error er)=>Ps.reads_err (e▸h));have HO:=q_ (fun n (e:out= .ok n)=>(Ps.reads_ok (e▸h)).1);clear h;go_enter Tryz.func7,Tryz.ntmps7;go_wp2_with fail;refine K.o.mono ?_;rintro e w2 ⟨hb,he⟩;have B2:=q_ hb;clear hb K;cases out with
 |error er=>
  obtain⟨a,b,rfl⟩:=he;go_wp2
  (try simp only[Exit.inBlock,Exit.then]);refine bodyPost_ret (results_tmp4 rfl _ _ _) rfl ?_;exact⟨B2.o,[],none,0,er,a,b,rfl,SOk.none,LAt.nil,.inr ⟨by rcases HE.o er rfl with h|h|h<;>omega,rfl,rfl⟩⟩
 |ok n=>
  obtain⟨ad,c,rfl,hnc,hcm,hl⟩:=he;have L2:=q_ hl;have hv:=HO.o n rfl;have hnl:=(M.exprOf_is hv).2.2.2;clear hl;go_wp2
  (try simp only[Exit.inBlock,Exit.then]);refine bodyPost_ret (results_tmp4 rfl _ _ _) rfl ?_;exact⟨B2.o,n,some ad,c,0,0,0,rfl,⟨(fun h=>by cases h),hnc,by omega,hcm⟩,L2.o,.inl ⟨rfl,rfl,hv⟩⟩
def OutX(w:World)(m:M.Msg)(n:List M.Node)(e:Ending)(w':World):Prop:=Below w.heap.size w w'/\∃(v:M.Val) (er:Int) (u:Nat),e= .returned (.tuple #[.agg #[.int .u8 0,.int .u8 0,.int .u8 0,.int .u8 0,.int .u8 0,.slice none 0 0,.slice none 0 0,.bool false,.int .i64 v.kind,.string v.text,.int .i64 v.num,.bool v.truth,.int .i64 (u:Nat)],.int .i64 er])/\u=(M.outN m n).2/\u<=2000/\((er=0/\(M.outN m n).1= .ok v)\/(er≠0/\(M.outN m n).1= .error er))
theorem M.cut_most{α:Type}{F:Nat}{r:Except Int α×Nat}:(M.cut F 0 r).2<=F:=by
 unfold M.cut;split
 ·assumption
 ·exact n_
theorem OutP.x{m:M.Msg}{n:List M.Node}{e:Ending}(h:OutP w (M.outN m n) e w'):OutX w m n e w':=by
 obtain⟨hb,he⟩:=h;have hu:(M.outN m n).2<=2000:=M.cut_most;cases hr:(M.outN m n).1 with
 |error er=>
  rw[hr] at he;exact⟨hb,M.vNone,er,_,he,rfl,hu,.inr ⟨M.cut_errs2 (Prod.ext hr rfl),hr⟩⟩
 |ok v=>
  rw[hr] at he;exact⟨hb,v,0,_,he,rfl,hu,.inl ⟨rfl,hr⟩⟩
theorem eqV_self(v:M.Val):M.eqV v v=true:=by
 unfold M.eqV M.eqT;simp
theorem logic_any(ALV:∀w,Calls Tryz.prog 6 #[] w fun e w'=>e= .returned (.bool true)/\Below w.heap.size w w')(a b:ByteArray)(m:M.Msg)(mA:Option Addr)(mc:Nat)(S:Nat->Prop)(w:World)(ha:a.size<=1099511627776)(hb:b.size<=1099511627776)(hS:∀b,S b->b<w.heap.size)(hmok:SOk mA m.segs.length mc)(hml:LAt ESeg w S mA m.segs.length m.segs)(hmx:2<w.heap.size/\∃z,w.cell? ⟨2,0,none⟩=some (.int .i64 z)):
 Calls Tryz.prog 3 #[.string a,.string b,.agg #[.int .u8 (m.d.f.toNat:Int),.int .u8 (m.d.c.toNat:Int),.int .u8 (m.d.r.toNat:Int),.int .u8 (m.d.e.toNat:Int),.int .u8 (m.d.s.toNat:Int),.slice mA m.segs.length mc]] w fun e w'=>e= .returned (.bool true)/\Below w.heap.size w w':=by
 have HA:=q_ ALV;obtain⟨w1,hw1⟩:∃w1,w1=w.alloc (.cells #[.int .u8 (m.d.f.toNat:Int),.int .u8 (m.d.c.toNat:Int),.int .u8 (m.d.r.toNat:Int),.int .u8 (m.d.e.toNat:Int),.int .u8 (m.d.s.toNat:Int),.slice mA m.segs.length mc] 26):=⟨_,rfl⟩
 have B1:=q_ (show Below w.heap.size w w1 from hw1▸(Below.refl _ w).alloc (n_) _);have MB1:=q_ (show Blk w1 w.heap.size 26 #[.int .u8 (m.d.f.toNat:Int),.int .u8 (m.d.c.toNat:Int),.int .u8 (m.d.r.toNat:Int),.int .u8 (m.d.e.toNat:Int),.int .u8 (m.d.s.toNat:Int),.slice mA m.segs.length mc] from hw1▸Blk.new w _ _);have hw1':=hw1.symm;clear hw1;have hup:=fun(W:World) (h:Below w.heap.size w W)=>fun b hb=>Nat.lt_of_lt_of_le (hS b hb) h.size;have KL:=q_ (fun(W:World) (h:Below w.heap.size w W)=>light_any m.d mA mc m.segs S W (hup W h) hmok (hml.below h hS));have KV:=q_ (fun(W:World) (h:Below w.heap.size w W)=>tValid_any m.d mA mc m.segs S W (hup W h) hmok (hml.below h hS))
 have KX:=q_ (fun(W:World) (h:Below w.heap.size w W) (hv:M.valid m=true) (n:List M.Node) (hk:M.kindN n= .ok 3) (A:Option Addr) (c:Nat) (w0:World) (h0:Below w.heap.size w w0) (w2:World) (h02:Below w0.heap.size w0 w2) (h2W:Below w2.heap.size w2 W) (hok:SOk A n.length c) (hl:LAt ENode w2 (New w0 w2) A n.length n)=>(show Calls Tryz.prog 9 #[.slice A n.length c,.agg #[.int .u8 (m.d.f.toNat:Int),.int .u8 (m.d.c.toNat:Int),.int .u8 (m.d.r.toNat:Int),.int .u8 (m.d.e.toNat:Int),.int .u8 (m.d.s.toNat:Int),.slice mA m.segs.length mc],.slice none 0 0,.string ⟨#[]⟩,.int .i64 2000] W (OutX W m n) from(evalExpr_any n A c m mA mc (fun b=>S b\/New w0 w2 b) W 3 hv hk (fun b hb=>hb.elim (hup W h b) (fun h=>Nat.lt_of_lt_of_le h.2 h2W.size)) hok ((hl.below h2W (fun b hb=>hb.2)).wide (fun b hb=> .inr hb)) hmok ((hml.below h hS).wide (fun b hb=> .inl hb)) ⟨Nat.lt_of_lt_of_le hmx.1 h.size,by obtain⟨z,hz⟩:=hmx.2;exact⟨z,(h.cell (p:=⟨2,0,none⟩) hmx.1).trans hz⟩⟩).mono fun e w' h=>OutP.x h));clear ALV hS hmok hml hmx hup
 have F1:=q_ (show∀W,Below w.heap.size w W->Calls Tryz.prog 6 #[] W fun e w'=>e= .returned (.bool true)/\Below w.heap.size w w' from fun W h=>(HA.o W).mono fun e w' ⟨h1,h2⟩=>⟨h1,h.trans (h2.mono h.size)⟩);have hwl:IntKind.i64.wrap ((a.size:Int)+(b.size:Int))=(a.size:Int)+(b.size:Int):=by rw[IntKind.wrap_i64];omega
 go_enter Tryz.func3,Tryz.ntmps3;have zm:=MB1.o.cell;by_cases h3:2000<a.size+b.size
 ·have q0:decide ((2000:Int)<(a.size:Int)+(b.size:Int))=true:=by simp;omega
  clear h3;go_wp2_with fail;refine(F1.o _ B1.o).mono ?_
  rintro e w9 ⟨rfl,hb9⟩;go_wp2;go_ret;exact⟨rfl,hb9⟩
 have q0:decide ((2000:Int)<(a.size:Int)+(b.size:Int))=false:=by simp;omega
 go_wp2_with fail;refine(KL.o w1 B1.o).mono ?_
 rintro e w2 ⟨⟨bl,rfl⟩,hb2⟩;have B2:=q_ (B1.o.trans (hb2.mono B1.o.size));have MB2:=q_ (MB1.o.below hb2 MB1.o.lt);clear hb2 zm KL hw1' q0;have zm:=MB2.o.cell;cases bl with
 |false=>
  go_wp2_with fail;refine(F1.o _ B2.o).mono ?_
  rintro e w9 ⟨rfl,hb9⟩;go_wp2;go_ret;exact⟨rfl,hb9⟩
 |true=>
 go_wp2_with fail;refine(KV.o w2 B2.o).mono ?_
 rintro e w3 ⟨rfl,hb3⟩;have B3:=q_ (B2.o.trans (hb3.mono B2.o.size));have MB3:=q_ (MB2.o.below hb3 MB2.o.lt);clear hb3 zm KV MB1 MB2 B2 B1;cases hv:M.valid m with
 |false=>
  go_wp2_with fail;refine(F1.o _ B3.o).mono ?_
  rintro e w9 ⟨rfl,hb9⟩;go_wp2;go_ret;exact⟨rfl,hb9⟩
 |true=>
 have HV:=q_ hv;clear hv;obtain⟨o1,ho1⟩:=Ps.reads_total a.data.toList;obtain⟨o2,ho2⟩:=Ps.reads_total b.data.toList;have RA:=q_ ho1;have RB:=q_ ho2;clear ho1 ho2;go_wp2_with fail;refine(parseExpr_any a w3 (by omega) o1 RA.o).mono ?_
 rintro e w4 ⟨hb4,n1,A1,c1,er1,l1,cc1,rfl,hok1,hl1,hc1⟩;have D34:=q_ hb4;have B4:=q_ (B3.o.trans (hb4.mono B3.o.size));have OK1:=q_ hok1;have L1:=q_ hl1;have C1:=q_ hc1;clear hb4 hok1 hl1 hc1;go_wp2_with fail;refine(parseExpr_any b w4 (by omega) o2 RB.o).mono ?_
 rintro e w5 ⟨hb5,n2,A2,c2,er2,l2,cc2,rfl,hok2,hl2,hc2⟩;have D45:=q_ hb5;have B5:=q_ (B4.o.trans (hb5.mono B4.o.size));have OK2:=q_ hok2;have L2:=q_ hl2;have C2:=q_ hc2;clear hb5 hok2 hl2 hc2;go_wp2_with fail;refine(checkExpr_any n1 A1 c1 (New w3 w4) w5 (fun b hb=>Nat.lt_of_lt_of_le hb.2 D45.o.size) OK1.o (L1.o.below D45.o (fun b hb=>hb.2))).mono ?_
 rintro e w6 ⟨hb6,he6⟩;have D56:=q_ hb6;have B6:=q_ (B5.o.trans (hb6.mono B5.o.size))
 obtain⟨k1,g1,z1,rfl,hk1⟩:∃k1 g1 z1,e= .returned (.tuple #[.int .i64 k1,.int .i64 g1,.int .i64 z1])/\(g1=0->M.kindN n1= .ok k1):=by
  cases hk:M.kindN n1 with
  |ok k=>rw[hk] at he6;exact⟨k,0,0,he6,fun _=>rfl⟩
  |error x=>rw[hk] at he6;obtain⟨er,z,h1,h2⟩:=he6;exact⟨0,er,z,h2,fun h=>absurd h h1⟩
 have K1:=q_ hk1;clear hb6 he6 hk1;go_wp2_with fail;refine(checkExpr_any n2 A2 c2 (New w4 w5) w6 (fun b hb=>Nat.lt_of_lt_of_le hb.2 D56.o.size) OK2.o (L2.o.below D56.o (fun b hb=>hb.2))).mono ?_
 rintro e w7 ⟨hb7,he7⟩;have D67:=q_ hb7;have B7:=q_ (B6.o.trans (hb7.mono B6.o.size))
 obtain⟨k2,g2,z2,rfl,hk2⟩:∃k2 g2 z2,e= .returned (.tuple #[.int .i64 k2,.int .i64 g2,.int .i64 z2])/\(g2=0->M.kindN n2= .ok k2):=by
  cases hk:M.kindN n2 with
  |ok k=>rw[hk] at he7;exact⟨k,0,0,he7,fun _=>rfl⟩
  |error x=>rw[hk] at he7;obtain⟨er,z,h1,h2⟩:=he7;exact⟨0,er,z,h2,fun h=>absurd h h1⟩
 have K2:=q_ hk2;clear hb7 he7 hk2;have hwn:IntKind.i64.wrap ((n1.length:Int)+(n2.length:Int))=(n1.length:Int)+(n2.length:Int):=by rw[IntKind.wrap_i64];have:=OK1.o.le;have:=OK2.o.le;omega
 by_cases hp1:er1=0;rotate_left
 ·have p1:(er1 !=0)=true:=by rw[bne_iff_ne];exact hp1
  clear hp1;go_wp2_with fail;refine(F1.o _ B7.o).mono ?_
  rintro e w9 ⟨rfl,hb9⟩;go_wp2;go_ret;exact⟨rfl,hb9⟩
 have p1:(er1 !=0)=false:=by rw[hp1];rfl
 by_cases hp2:er2=0;rotate_left
 ·have p2:(er2 !=0)=true:=by rw[bne_iff_ne];exact hp2
  clear hp2;go_wp2_with fail;refine(F1.o _ B7.o).mono ?_
  rintro e w9 ⟨rfl,hb9⟩;go_wp2;go_ret;exact⟨rfl,hb9⟩
 have p2:(er2 !=0)=false:=by rw[hp2];rfl
 by_cases hp3:g1=0;rotate_left
 ·have p3:(g1 !=0)=true:=by rw[bne_iff_ne];exact hp3
  clear hp3;go_wp2_with fail;refine(F1.o _ B7.o).mono ?_
  rintro e w9 ⟨rfl,hb9⟩;go_wp2;go_ret;exact⟨rfl,hb9⟩
 have p3:(g1 !=0)=false:=by rw[hp3];rfl
 by_cases hp4:g2=0;rotate_left
 ·have p4:(g2 !=0)=true:=by rw[bne_iff_ne];exact hp4
  clear hp4;go_wp2_with fail;refine(F1.o _ B7.o).mono ?_
  rintro e w9 ⟨rfl,hb9⟩;go_wp2;go_ret;exact⟨rfl,hb9⟩
 have p4:(g2 !=0)=false:=by rw[hp4];rfl
 by_cases hp5:k1=3;rotate_left
 ·have p5:(k1 !=3)=true:=by rw[bne_iff_ne];exact hp5
  clear hp5;go_wp2_with fail;refine(F1.o _ B7.o).mono ?_
  rintro e w9 ⟨rfl,hb9⟩;go_wp2;go_ret;exact⟨rfl,hb9⟩
 have p5:(k1 !=3)=false:=by rw[hp5];rfl
 by_cases hp6:k2=3;rotate_left
 ·have p6:(k2 !=3)=true:=by rw[bne_iff_ne];exact hp6
  clear hp6;go_wp2_with fail;refine(F1.o _ B7.o).mono ?_
  rintro e w9 ⟨rfl,hb9⟩;go_wp2;go_ret;exact⟨rfl,hb9⟩
 have p6:(k2 !=3)=false:=by rw[hp6];rfl
 by_cases hp7:150<n1.length+n2.length
 ·have p7:decide ((150:Int)<(n1.length:Int)+(n2.length:Int))=true:=by simp;omega
  clear hp7;go_wp2_with fail;refine(F1.o _ B7.o).mono ?_
  rintro e w9 ⟨rfl,hb9⟩;go_wp2;go_ret;exact⟨rfl,hb9⟩
 have p7:decide ((150:Int)<(n1.length:Int)+(n2.length:Int))=false:=by simp;omega
 subst hp1 hp2 hp3 hp4 hp5 hp6
 obtain⟨rfl,hi1⟩:o1= .ok n1/\M.isA n1 3=true:=by
  rcases C1.o with⟨-,h,h2⟩|⟨h,-⟩
  ·exact⟨h,h2⟩
  ·exact absurd rfl h
 obtain⟨rfl,hi2⟩:o2= .ok n2/\M.isA n2 3=true:=by
  rcases C2.o with⟨-,h,h2⟩|⟨h,-⟩
  ·exact⟨h,h2⟩
  ·exact absurd rfl h
 have HI:=q_ (And.intro hi1 (And.intro hi2 (And.intro (K1.o rfl) (K2.o rfl))));obtain⟨hj1,hj2⟩:=Ps.reads_join RA.o RB.o;obtain⟨o3,ho3⟩:∃o3:Except Int (List M.Node),(if M.isA (Ps.orN n1 n2) 3=true then Except.ok (Ps.orN n1 n2) else .error 2)=o3:=⟨_,rfl⟩
 obtain⟨o4,ho4⟩:∃o4:Except Int (List M.Node),(if M.isA (Ps.deN n1 n2) 3=true then Except.ok (Ps.deN n1 n2) else .error 2)=o4:=⟨_,rfl⟩
 rw[ho3] at hj1;rw[ho4] at hj2
 have T1:(⟨#[40]⟩++a++⟨#[10,41,32,111,114,32,40]⟩++b++⟨#[10,41]⟩:ByteArray).data.toList=Ps.textOr a.data.toList b.data.toList:=by
  simp[Ps.textOr]
 have T2:(⟨#[110,111,116,32,40,110,111,116,32,40]⟩++a++⟨#[10,41,32,97,110,100,32,110,111,116,32,40]⟩++b++⟨#[10,41,41]⟩:ByteArray).data.toList=Ps.textDe a.data.toList b.data.toList:=by
  simp[Ps.textDe]
 rw[<-T1] at hj1;rw[<-T2] at hj2;have KP1:=q_ (fun W=>parseExpr_any (⟨#[40]⟩++a++⟨#[10,41,32,111,114,32,40]⟩++b++⟨#[10,41]⟩) W (by rw[<-len_size,T1];simp[Ps.textOr];omega) o3 hj1);have KP2:=q_ (fun W=>parseExpr_any (⟨#[110,111,116,32,40,110,111,116,32,40]⟩++a++⟨#[10,41,32,97,110,100,32,110,111,116,32,40]⟩++b++⟨#[10,41,41]⟩) W (by rw[<-len_size,T2];simp[Ps.textDe];omega) o4 hj2);have HO3:=q_ ho3;have HO4:=q_ ho4;clear hj1 hj2 T1 T2 ho3 ho4 hi1 hi2 RA RB C1 C2 K1 K2 hp7;go_wp2_with fail;refine(KP1.o w7).mono ?_
 rintro e w8 ⟨hb8,n3,A3,c3,er3,l3,cc3,rfl,hok3,hl3,hc3⟩;have D78:=q_ hb8;have B8:=q_ (B7.o.trans (hb8.mono B7.o.size));have OK3:=q_ hok3;have L3:=q_ hl3;have C3:=q_ hc3;clear hb8 hok3 hl3 hc3 p1 p2 p3 p4 p5 p6 p7 hwn hwl KP1;go_wp2_with fail;refine(KP2.o w8).mono ?_
 rintro e w9 ⟨hb9,n4,A4,c4,er4,l4,cc4,rfl,hok4,hl4,hc4⟩;have D89:=q_ hb9;have B9:=q_ (B8.o.trans (hb9.mono B8.o.size));have OK4:=q_ hok4;have L4:=q_ hl4;have C4:=q_ hc4;clear hb9 hok4 hl4 hc4 KP2
 have e3:er3≠0->er3=2:=fun h=>by
  rcases C3.o with⟨h2,-⟩|⟨-,h2,-⟩
  ·exact absurd h2 h
  ·have:=HO3.o.trans h2
   split at this
   ·cases this
   ·injection this with this;exact this.symm
 have e4:er4≠0->er4=2:=fun h=>by
  rcases C4.o with⟨h2,-⟩|⟨-,h2,-⟩
  ·exact absurd h2 h
  ·have:=HO4.o.trans h2
   split at this
   ·cases this
   ·injection this with this;exact this.symm
 by_cases h8:er3=0;rotate_left
 ·obtain rfl:=e3 h8
  clear h8 e3 e4;go_wp2_with fail;refine(F1.o _ B9.o).mono ?_
  rintro e wz ⟨rfl,hbz⟩;go_wp2;go_ret;exact⟨rfl,hbz⟩
 by_cases h9:er4=0;rotate_left
 ·obtain rfl:=e4 h9
  subst h8;clear h9 e3 e4;go_wp2_with fail;refine(F1.o _ B9.o).mono ?_
  rintro e wz ⟨rfl,hbz⟩;go_wp2;go_ret;exact⟨rfl,hbz⟩
 subst h8 h9;clear e3 e4
 obtain⟨rfl,hi3⟩:n3=Ps.orN n1 n2/\M.isA (Ps.orN n1 n2) 3=true:=by
  rcases C3.o with⟨-,h,h2⟩|⟨h,-⟩
  ·have:=HO3.o.trans h
   split at this
   ·rename_i hv
    injection this with this;exact⟨this.symm,hv⟩
   ·cases this
  ·exact absurd rfl h
 obtain⟨rfl,hi4⟩:n4=Ps.deN n1 n2/\M.isA (Ps.deN n1 n2) 3=true:=by
  rcases C4.o with⟨-,h,h2⟩|⟨h,-⟩
  ·have:=HO4.o.trans h
   split at this
   ·rename_i hv
    injection this with this;exact⟨this.symm,hv⟩
   ·cases this
  ·exact absurd rfl h
 have LAW:=q_ (M.logic_law HI.o.1 HI.o.2.1 HI.o.2.2.2 m hi3 hi4);have Q3:=q_ (M.or_kind HI.o.1 HI.o.2.1 HI.o.2.2.1 HI.o.2.2.2 hi3);have Q4:=q_ (M.de_kind HI.o.1 HI.o.2.1 HI.o.2.2.1 HI.o.2.2.2 hi4);have MB9:=q_ (MB3.o.below (D34.o.trans ((D45.o.trans ((D56.o.trans ((D67.o.trans ((D78.o.trans (D89.o.mono D78.o.size)).mono D67.o.size)).mono D56.o.size)).mono D45.o.size)).mono D34.o.size)) MB3.o.lt);have S49:=q_ (D45.o.trans ((D56.o.trans ((D67.o.trans ((D78.o.trans (D89.o.mono D78.o.size)).mono D67.o.size)).mono D56.o.size)).mono D45.o.size));have S59:=q_ (D56.o.trans ((D67.o.trans ((D78.o.trans (D89.o.mono D78.o.size)).mono D67.o.size)).mono D56.o.size));clear C3 C4 HO3 HO4 hi3 hi4 MB3;have zm:=MB9.o.cell;go_wp2_with fail;refine(KX.o w9 B9.o HV.o n1 HI.o.2.2.1 A1 c1 w3 B3.o w4 D34.o S49.o OK1.o L1.o).mono ?_
 rintro e wa ⟨hba,v1,x1,u1,rfl,hu1,hm1,hr1⟩;have R1:=q_ (And.intro hu1 (And.intro hm1 hr1));have Da:=q_ hba;have OB1:=q_ (Blk.new wa 39 #[.int .u8 0,.int .u8 0,.int .u8 0,.int .u8 0,.int .u8 0,.slice none 0 0,.slice none 0 0,.bool false,.int .i64 v1.kind,.string v1.text,.int .i64 v1.num,.bool v1.truth,.int .i64 (u1:Nat)]);have Ea:=q_ (hba.alloc hba.size (.cells #[.int .u8 0,.int .u8 0,.int .u8 0,.int .u8 0,.int .u8 0,.slice none 0 0,.slice none 0 0,.bool false,.int .i64 v1.kind,.string v1.text,.int .i64 v1.num,.bool v1.truth,.int .i64 (u1:Nat)] 39));have MBb:=q_ (MB9.o.below Ea.o MB9.o.lt);have hza:(wa.alloc (.cells #[.int .u8 0,.int .u8 0,.int .u8 0,.int .u8 0,.int .u8 0,.slice none 0 0,.slice none 0 0,.bool false,.int .i64 v1.kind,.string v1.text,.int .i64 v1.num,.bool v1.truth,.int .i64 (u1:Nat)] 39)).heap.size=wa.heap.size+1:=by simp
 clear hba hu1 hm1 hr1 zm;go_upto_region 14 with fail;generalize wa.alloc (.cells #[.int .u8 0,.int .u8 0,.int .u8 0,.int .u8 0,.int .u8 0,.slice none 0 0,.slice none 0 0,.bool false,.int .i64 v1.kind,.string v1.text,.int .i64 v1.num,.bool v1.truth,.int .i64 (u1:Nat)] 39)=wb at*;have zm:=MBb.o.cell;have Bb:=q_ (B9.o.trans (Ea.o.mono B9.o.size));go_wp2_with fail;refine(KX.o wb Bb.o HV.o n2 HI.o.2.2.2 A2 c2 w4 B4.o w5 D45.o (S59.o.trans (Ea.o.mono S59.o.size)) OK2.o L2.o).mono ?_
 rintro e wc ⟨hbc,v2,x2,u2,rfl,hu2,hm2,hr2⟩;have R2:=q_ (And.intro hu2 (And.intro hm2 hr2));have OB2:=q_ (Blk.new wc 39 #[.int .u8 0,.int .u8 0,.int .u8 0,.int .u8 0,.int .u8 0,.slice none 0 0,.slice none 0 0,.bool false,.int .i64 v2.kind,.string v2.text,.int .i64 v2.num,.bool v2.truth,.int .i64 (u2:Nat)]);have Ec:=q_ (hbc.alloc hbc.size (.cells #[.int .u8 0,.int .u8 0,.int .u8 0,.int .u8 0,.int .u8 0,.slice none 0 0,.slice none 0 0,.bool false,.int .i64 v2.kind,.string v2.text,.int .i64 v2.num,.bool v2.truth,.int .i64 (u2:Nat)] 39));have MBd:=q_ (MBb.o.below Ec.o MBb.o.lt);have hzc:(wc.alloc (.cells #[.int .u8 0,.int .u8 0,.int .u8 0,.int .u8 0,.int .u8 0,.slice none 0 0,.slice none 0 0,.bool false,.int .i64 v2.kind,.string v2.text,.int .i64 v2.num,.bool v2.truth,.int .i64 (u2:Nat)] 39)).heap.size=wc.heap.size+1:=by simp
 clear hbc hu2 hm2 hr2 zm;go_upto_region 15 with fail;generalize wc.alloc (.cells #[.int .u8 0,.int .u8 0,.int .u8 0,.int .u8 0,.int .u8 0,.slice none 0 0,.slice none 0 0,.bool false,.int .i64 v2.kind,.string v2.text,.int .i64 v2.num,.bool v2.truth,.int .i64 (u2:Nat)] 39)=wd at*;have zm:=MBd.o.cell;have Bd:=q_ (Bb.o.trans (Ec.o.mono Bb.o.size));have OB1d:=q_ (OB1.o.below Ec.o OB1.o.lt);go_wp2_with fail;refine(KX.o wd Bd.o HV.o (Ps.orN n1 n2) Q3.o A3 c3 w7 B7.o w8 D78.o (D89.o.trans ((Ea.o.trans (Ec.o.mono Ea.o.size)).mono D89.o.size)) OK3.o L3.o).mono ?_
 rintro e we ⟨hbe,v3,x3,u3,rfl,hu3,hm3,hr3⟩;have R3:=q_ (And.intro hu3 (And.intro hm3 hr3));have OB3:=q_ (Blk.new we 39 #[.int .u8 0,.int .u8 0,.int .u8 0,.int .u8 0,.int .u8 0,.slice none 0 0,.slice none 0 0,.bool false,.int .i64 v3.kind,.string v3.text,.int .i64 v3.num,.bool v3.truth,.int .i64 (u3:Nat)]);have Ee:=q_ (hbe.alloc hbe.size (.cells #[.int .u8 0,.int .u8 0,.int .u8 0,.int .u8 0,.int .u8 0,.slice none 0 0,.slice none 0 0,.bool false,.int .i64 v3.kind,.string v3.text,.int .i64 v3.num,.bool v3.truth,.int .i64 (u3:Nat)] 39));have MBf:=q_ (MBd.o.below Ee.o MBd.o.lt);have hze:(we.alloc (.cells #[.int .u8 0,.int .u8 0,.int .u8 0,.int .u8 0,.int .u8 0,.slice none 0 0,.slice none 0 0,.bool false,.int .i64 v3.kind,.string v3.text,.int .i64 v3.num,.bool v3.truth,.int .i64 (u3:Nat)] 39)).heap.size=we.heap.size+1:=by simp
 clear hbe hu3 hm3 hr3 zm;go_upto_region 16 with fail;generalize we.alloc (.cells #[.int .u8 0,.int .u8 0,.int .u8 0,.int .u8 0,.int .u8 0,.slice none 0 0,.slice none 0 0,.bool false,.int .i64 v3.kind,.string v3.text,.int .i64 v3.num,.bool v3.truth,.int .i64 (u3:Nat)] 39)=wf at*;have zm:=MBf.o.cell;have Bf:=q_ (Bd.o.trans (Ee.o.mono Bd.o.size));have OB1f:=q_ (OB1d.o.below Ee.o OB1d.o.lt);have OB2f:=q_ (OB2.o.below Ee.o OB2.o.lt);go_wp2_with fail;refine(KX.o wf Bf.o HV.o (Ps.deN n1 n2) Q4.o A4 c4 w8 B8.o w9 D89.o (Ea.o.trans ((Ec.o.trans (Ee.o.mono Ec.o.size)).mono Ea.o.size)) OK4.o L4.o).mono ?_
 rintro e wg ⟨hbg,v4,x4,u4,rfl,hu4,hm4,hr4⟩;have R4:=q_ (And.intro hu4 (And.intro hm4 hr4));have OB4:=q_ (Blk.new wg 39 #[.int .u8 0,.int .u8 0,.int .u8 0,.int .u8 0,.int .u8 0,.slice none 0 0,.slice none 0 0,.bool false,.int .i64 v4.kind,.string v4.text,.int .i64 v4.num,.bool v4.truth,.int .i64 (u4:Nat)]);have Eg:=q_ (hbg.alloc hbg.size (.cells #[.int .u8 0,.int .u8 0,.int .u8 0,.int .u8 0,.int .u8 0,.slice none 0 0,.slice none 0 0,.bool false,.int .i64 v4.kind,.string v4.text,.int .i64 v4.num,.bool v4.truth,.int .i64 (u4:Nat)] 39));clear hbg hu4 hm4 hr4 zm;go_upto_region 17 with fail;generalize wg.alloc (.cells #[.int .u8 0,.int .u8 0,.int .u8 0,.int .u8 0,.int .u8 0,.slice none 0 0,.slice none 0 0,.bool false,.int .i64 v4.kind,.string v4.text,.int .i64 v4.num,.bool v4.truth,.int .i64 (u4:Nat)] 39)=wh at*;have Bh:=q_ (Bf.o.trans (Eg.o.mono Bf.o.size));have OB1h:=q_ (OB1f.o.below Eg.o OB1f.o.lt);have OB2h:=q_ (OB2f.o.below Eg.o OB2f.o.lt);have OB3h:=q_ (OB3.o.below Eg.o OB3.o.lt);clear OB1 OB1d OB1f OB2 OB2f OB3 KX MB9 MBb MBd MBf Ea Ec Ee Eg
 have hwu:IntKind.i64.wrap ((u1:Int)+1)=(u1:Int)+1:=by rw[IntKind.wrap_i64];have:=R1.o.2.1;omega
 rcases R1.o.2.2 with⟨rfl,hp⟩|⟨hx1,hp⟩
 rotate_left
 ·obtain⟨hr,hd⟩:=LAW.o.1 _ hp
  obtain rfl:x3=x1:=by
   rcases R3.o.2.2 with⟨-,h⟩|⟨-,h⟩
   ·rw[hr] at h;cases h
   ·rw[hr] at h;injection h with h;exact h.symm
  obtain rfl:x4=x3:=by
   rcases R4.o.2.2 with⟨-,h⟩|⟨-,h⟩
   ·rw[hd] at h;cases h
   ·rw[hd] at h;injection h with h;exact h.symm
  have q1:(x4 !=0)=true:=by rw[bne_iff_ne];exact hx1
  have q2:(x4==x4)=true:=by simp
  clear hx1 hp hr hd LAW;go_wp2_with fail;refine(F1.o _ Bh.o).mono ?_
  rintro e wz ⟨rfl,hbz⟩;go_wp2;go_ret;exact⟨rfl,hbz⟩
 ·cases ht:v1.truth with
  |true=>
   obtain⟨⟨r,hr,hrt⟩,⟨q,hq,hqt⟩,hus⟩:=LAW.o.2.1 _ hp ht
   obtain⟨rfl,rfl⟩:x3=0/\v3=r:=by
    rcases R3.o.2.2 with⟨h0,h⟩|⟨-,h⟩
    ·rw[hr] at h;injection h with h;exact⟨h0,h.symm⟩
    ·rw[hr] at h;cases h
   obtain⟨rfl,rfl⟩:x4=0/\v4=q:=by
    rcases R4.o.2.2 with⟨h0,h⟩|⟨-,h⟩
    ·rw[hq] at h;injection h with h;exact⟨h0,h.symm⟩
    ·rw[hq] at h;cases h
   have hu:(u3:Int)=(u1:Int)+1:=by have:=R3.o.1;have:=R1.o.1;omega
   have y1:=OB1h.o.cell;rw[ht] at y1;have HT:=q_ (And.intro ht (And.intro hrt hqt));have HU:=q_ hu;clear hp hr hq hus LAW ht hrt hqt hu;go_wp2_with fail;refine(HA.o wh).mono ?_
   rintro e wz ⟨rfl,hbz⟩;have Bz:=q_ (Bh.o.trans (hbz.mono Bh.o.size));have y1:=(OB1h.o.below hbz OB1h.o.lt).cell;have y3:=(OB3h.o.below hbz OB3h.o.lt).cell;have y4:=(OB4.o.below hbz OB4.o.lt).cell;rw[HT.o.2.1,HU.o] at y3;rw[HT.o.2.2] at y4;clear hbz;go_wp2_with fail;go_ret;exact⟨rfl,Bz.o⟩
  |false=>
   have hl:=LAW.o.2.2 _ hp ht;have y1:=OB1h.o.cell;rw[ht] at y1;rcases R2.o.2.2 with⟨rfl,h2⟩|⟨hx2,h2⟩
   ·obtain⟨hr,hd⟩:=hl.2 _ h2
    obtain⟨rfl,rfl⟩:x3=0/\v3=v2:=by
     rcases R3.o.2.2 with⟨h0,h⟩|⟨-,h⟩
     ·rw[hr] at h;injection h with h;exact⟨h0,h.symm⟩
     ·rw[hr] at h;cases h
    obtain⟨rfl,rfl⟩:x4=0/\v4=v3:=by
     rcases R4.o.2.2 with⟨h0,h⟩|⟨-,h⟩
     ·rw[hd] at h;injection h with h;exact⟨h0,h.symm⟩
     ·rw[hd] at h;cases h
    have te:=eq_val v4 v4;rw[eqV_self] at te;clear hp hl hr hd h2 LAW ht;go_wp2_with fail;refine(HA.o wh).mono ?_
    rintro e wz ⟨rfl,hbz⟩;have Bz:=q_ (Bh.o.trans (hbz.mono Bh.o.size));have y2:=(OB2h.o.below hbz OB2h.o.lt).cell;have y3:=(OB3h.o.below hbz OB3h.o.lt).cell;have y4:=(OB4.o.below hbz OB4.o.lt).cell;clear hbz;go_wp2_with fail;go_ret;exact⟨rfl,Bz.o⟩
   ·obtain⟨hr,hd⟩:=hl.1 _ h2
    obtain rfl:x3=x2:=by
     rcases R3.o.2.2 with⟨-,h⟩|⟨-,h⟩
     ·rw[hr] at h;cases h
     ·rw[hr] at h;injection h with h;exact h.symm
    obtain rfl:x4=x3:=by
     rcases R4.o.2.2 with⟨-,h⟩|⟨-,h⟩
     ·rw[hd] at h;cases h
     ·rw[hd] at h;injection h with h;exact h.symm
    have q1:(x4 !=0)=true:=by rw[bne_iff_ne];exact hx2
    have q2:(x4==x4)=true:=by simp
    clear hx2 hp hl hr hd h2 LAW ht;go_wp2_with fail;refine(F1.o _ Bh.o).mono ?_
    rintro e wz ⟨rfl,hbz⟩;go_wp2;go_ret;exact⟨rfl,hbz⟩
end
section
open Go.ChangeShapes Go.WideShapes Go.ChangeAt Go.RowKit
open Go.ChangeMaps (open_string shut_string)
theorem below_sameAt{B:Nat}(h:Below B w w'){p:MemPlace}(hp:p.block<B):w.sameAt w' p:=by
 cases p with
 |cell b off=>exact h.cell (p:=⟨b,off,none⟩) hp
 |map b=>exact h.block b hp
def AliveOk:Prop:=∀w,Calls Tryz.prog 6 #[] w fun e w'=>e= .returned (.bool true)/\Below w.heap.size w w'
abbrev laid2:List (String×DataW Unit):=[("unicode/utf8.acceptRanges",Rows.laid_unicode_utf8_acceptRanges),("unicode/utf8.first",Rows.laid_unicode_utf8_first)]
theorem maxLen_type:(((begin Tryz.prog (fun _ _=>0) default).world.heap[2]?).bind Obj.row?).map (fun x=>(x.1.size,x.2))=some (1,3):=by kernel_rfl
theorem maxLen_cell{W:World}(h:W.ShapedOpen Tryz.prog):2<W.heap.size/\∃z,W.cell? ⟨2,0,none⟩=some (.int .i64 z):=by
 obtain⟨⟨zero,t⟩,h1,h2⟩:=Option.map_eq_some_iff.1 maxLen_type;simp only[Prod.mk.injEq] at h2;obtain⟨hz,rfl⟩:=h2;obtain⟨z,hc⟩:=cell_of_shapedOpen_int h (g:=2) (of_decide_eq_true (by kernel_rfl)) h1 hz (by kernel_rfl) (by kernel_rfl) Tryz.underlying3;exact⟨World.block_lt_of_cell? _ _ hc,z,hc⟩
theorem contract(ALV:AliveOk)(H:Type)(enc:TypeId×Value->H)(W:World)(base:Nat)(args:Array Value)(ds gs:List (DataW H))(before:List MemPlace)(hval0:∀(j:Nat) t v,Tryz.f3.params[j]? =some t->args[j]? =some v->Value.okWide Tryz.prog W .any base t v)(hW:DataW.Whole enc Tryz.prog Tryz.f3.params.toList Rows.evalLogicSpec.vars false W args.toList ds gs before)(hk:Rows.uptoSmall H (ds++gs)=true)(hsh:W.ShapedOpen Tryz.prog):
 Calls Tryz.prog 3 args W fun e W'=>∃v,e= .returned v/\Rows.evalLogicSpec.post enc Tryz.prog Tryz.f3 false true false false W args v W':=by
 have hval:∀(j:Nat) t v,Tryz.f3.params[j]? =some t->args[j]? =some v->Value.okWide Tryz.prog W .any base t v:=hval0;have hW':=hW;obtain⟨p,q,hA0,hV,rfl,_,_⟩:=hW;have hA:DataW.TrodAll enc Tryz.prog W 0 (fun _=>true) true Tryz.f3.params.toList args.toList ds p:=hA0;rw[Tryz.params3] at hA hval;obtain⟨v0,vs0,d0,ds0,p0,q0,hargs,rfl,rfl,h0,r0⟩:=trodAll_cons hA;obtain⟨v1,vs1,d1,ds1,p1,q1,rfl,rfl,rfl,h1,r1⟩:=trodAll_cons r0;obtain⟨v2,vs2,d2,ds2,p2,q2,rfl,rfl,rfl,h2,r2⟩:=trodAll_cons r1;obtain⟨rfl,rfl,rfl⟩:=trodAll_nil r2;obtain rfl:args=#[v0,v1,v2]:=by cases args;simp_all
 obtain⟨rfl,rfl⟩:=trodVars_none hV;have hb:=of_decide_eq_true hk;simp only[List.append_nil,Rows.uptoBulkAll] at hb;have k2:=h2;obtain⟨a,rfl,rfl,rfl,w0⟩:=open_string Tryz.underlying9 (hval 0 9 v0 rfl rfl) h0;obtain⟨b,rfl,rfl,rfl,w1⟩:=open_string Tryz.underlying9 (hval 1 9 v1 rfl rfl) h1;simp only[Rows.uptoBulk] at hb;have ea:a.data.toList.length=a.size:=by simp
 have eb:b.data.toList.length=b.size:=by simp
 obtain⟨m,mA,mc,rfl,hmok,hml⟩:=open_msg (hval 2 26 v2 rfl rfl) h2 (by omega);clear hA0 hval0;simp only[List.append_nil,List.nil_append] at hW';refine(logic_any ALV a b m mA mc (fun b=>b<W.heap.size) W (by omega) (by omega) (fun b h=>h) hmok hml (maxLen_cell hsh)).mono fun e W' ⟨he,hb⟩=> ?_
 subst he
 exact⟨_,rfl,post_of_below (pa:=p2) (pv:=[]) hW' (fun _ _ _=>trodAll_cons_mk (shut_bool Tryz.underlying4 _) trodAll_mk0) (fun sp hsp=>by
  have:=trodAll_cons_mk (shut_string Tryz.underlying9 w0) (trodAll_cons_mk (shut_string Tryz.underlying9 w1)
   (trodAll_cons_mk (WideElems.Trod_stays laidOutP (by kernel_rfl) (of_decide_eq_true (by kernel_rfl)) k2 (fun x hx=>below_sameAt hb (hW'.lt x (by simpa using hx))) (fun x hx=>hsp x (by simpa using hx))) trodAll_mk0))
  simp only[List.append_nil,List.nil_append] at this;exact this) (fun _ _=>rfl) (by simp)
  hb (ok_one (by kernel_rfl) rfl (okWide_bool_mk Tryz.underlying4 _))⟩
def wArgs:Array Value:=#[.string ⟨#[]⟩,.string ⟨#[]⟩,.agg #[.int .u8 0,.int .u8 0,.int .u8 0,.int .u8 0,.int .u8 0,.slice none 0 0]]
theorem wReads(os:Os){H:Type}(enc:TypeId×Value->H):∃places,DataW.whole enc Tryz.prog ((World.laidAll Tryz.prog os laid2).forCall (fun _ _=>0) ⟨#[],wArgs,[]⟩).memory Tryz.f3.params.toList Rows.evalLogicSpec.vars false wArgs.toList 8=some ([.lit (.string []),.lit (.string []),.agg [.agg [.lit (.int .u8 0),.lit (.int .u8 0),.lit (.int .u8 0),.lit (.int .u8 0),.lit (.int .u8 0)],.nil]],[],places):=
 ⟨[],by kernel_rfl⟩
theorem lifted(ALV:AliveOk)(os:Os)(started:os.Started)(H:Type)(enc:TypeId×Value->H)(F:Stop.Interp):
 ReturnsInHanded {} Tryz.checked os 3 .any ((Rows.OpenSpec.upto Rows.evalLogicSpec).preRow enc Tryz.prog Tryz.f3 Rows.evalLogicUptoRow.domain false Rows.evalLogicUptoRow.laid) (((Rows.OpenSpec.upto Rows.evalLogicSpec).at F).post enc Tryz.prog Tryz.f3 false true false false):=by
 obtain⟨places,hx⟩:=wReads os enc
 refine returnsInHanded_of_row (C:=Tryz.checked) (s:=Rows.OpenSpec.upto Rows.evalLogicSpec) (show ownKnob Tryz.prog.godebug=none by kernel_rfl) started (by kernel_rfl) Tryz.func3
  ⟨World.laidAll Tryz.prog os laid2,fun _ _=>0,⟨#[],wArgs,[]⟩,World.laidAll_os _ _ _,World.shaped_of_ZipB (by kernel_rfl) (by kernel_rfl),rfl,(Input.okWide_of_okWideB (by kernel_rfl)).2,
   OpenSpec.preRow_of_cond 8 hx (by kernel_rfl) (fun k hk=>by cases hk;kernel_rfl) (by kernel_rfl) (by
    show laidMetH Tryz.prog laid2 _;rw[MakeChecks.laidMetH_plain _ _ _ (by kernel_rfl)];exact laidMet_laidAll _ (by kernel_rfl) (by kernel_rfl)),by
   simp only[Assume.holds];exact⟨by simp,(fun h=>by cases h),(fun h=>by cases h),(fun d h=>by cases h),(fun d h=>by cases h),(fun h=>by cases h)⟩⟩ ?_
 intro W base args ds gs before hval hW _ hcond _ _ hsh _;exact contract ALV H enc W base args ds gs before hval hW (hcond _ rfl) hsh
end
section
open Go
theorem funcIs:Tryz.prog.funcNamed "caduceus/caduceuslaw17.EvalLogic"=some 3:=by kernel_rfl
theorem joined:joinedFacts Tryz.pinned.checked.prog 3 Tryz.f3 (Rows.OpenSpec.upto Rows.evalLogicSpec).bare Rows.evalLogicUptoRow=true:=by kernel_rfl
theorem over:Rows.EvalLogicUptoSaid:=
 OpenClaim.holds_of_cond 3 Tryz.f3 rfl rfl rfl rfl rfl rfl rfl ⟨rfl,rfl,rfl,rfl,rfl⟩ rfl rfl rfl rfl rfl funcIs Tryz.func3 joined
  (of_decide_eq_true (by as_aux_lemma=>kernel_rfl)) (by unfold Func.isWrapper;first|(rw[if_pos (by decide+kernel)];kernel_rfl)|(rw[if_neg (by decide+kernel)];exact⟨rfl,rfl⟩))
  (fun os started H enc _ F=>by rw[OpenClaim.pre_eq_preRow];exact lifted alive_ok os started H enc F)
theorem plainArgs(f:FuncId)(fn:Func)(hf:Tryz.pinned.checked.prog.funcNamed "caduceus/caduceuslaw17.EvalLogic"=some f)(hfn:Tryz.pinned.checked.prog.funcs[f]? =some fn):
 true=Tryz.pinned.checked.prog.looks []/\∀(j:Nat) t,fn.params[j]? =some t->Tryz.pinned.checked.prog.wantsStandIn t=false:=by
 obtain rfl:f=3:=Option.some.inj (funcIs.symm.trans hf)|>.symm
 obtain rfl:fn=Tryz.f3:=(Option.some.inj (Tryz.func3.symm.trans hfn)).symm;refine⟨by kernel_rfl,fun j t ht=> ?_⟩;rw[Tryz.params3] at ht;have hm:t∈[9,9,26]:=by simpa using Array.mem_of_getElem? ht
 exact(show Tryz.prog.wantsStandIn t=false by simpa using List.all_eq_true.1 (show([9,9,26].all fun u=> !Tryz.prog.wantsStandIn u)=true by kernel_rfl) t hm)
theorem proved:Rows.EvalLogicUptoCardSaid:=
 Claim7.holds_tied_plain_at .later [] _ _ _ _ over (fun _ h=>by cases h) (by kernel_rfl) (fun _ h=>by cases h) evalLogicUpto_row_tie rfl ⟨rfl,rfl⟩ (by kernel_rfl) rfl plainArgs (by kernel_rfl)
end
end Go.Proofs.YtnocnbklhikmnaaGreatDoor
