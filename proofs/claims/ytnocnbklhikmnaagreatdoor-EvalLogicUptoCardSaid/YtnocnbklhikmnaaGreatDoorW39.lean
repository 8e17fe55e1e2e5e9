/- Part 39 of the proof. -/
import Derived.Test.YtnocnbklhikmnaaGreatDoorW33
import Derived.Test.YtnocnbklhikmnaaGreatDoorW37
import Derived.Test.YtnocnbklhikmnaaGreatDoorW38
set_option linter.unusedVariables false
set_option maxRecDepth 1000000
set_option maxHeartbeats 16000000
namespace Go.Proofs.YtnocnbklhikmnaaGreatDoor.Rk
open Go Go.RowKit
section
variable {P:Program} {ρ:Env} {T:Nat->Nat->Prop} {s s':St} {w w':World}
def ansTrue:Option (Res×St)->Bool
 |some (.ret (.bool true),_)=>true
 |_=>false
theorem closed_args{O:Told}{f:FuncId}{args:List AV}(hP:plainFuncs P=true)(hm:P.follows .mixedOrders=true)(hO:TSound P O)(fuel d:Nat)(h:ansTrue (call P O (dcall P fuel) fuel d f args ⟨.leaf,0,[]⟩)=true)(vs:Array Value)(hv:VRL (fun _=>none) args vs.toList)(w:World):Calls P f vs w (fun e w'=>e= .returned (.bool true)/\Below w.heap.size w w'):=by
 unfold ansTrue at h;split at h
 ·rename_i q hq
  have hwf:WfS ⟨.leaf,0,[]⟩:=fun b _=>rfl;obtain⟨_,k⟩:=call_ok hP hm hO (dsound hP hm fuel) fuel d f args _ _ _ hq hwf
  have hp:Pre (fun _=>none) (fun _ _=>False) ⟨.leaf,0,[]⟩ q w:=by
   refine⟨⟨fun b x hb=> ?_,fun b b' r r' x x' hb=> ?_,fun b r hb=> ?_⟩,fun e he hb=> ?_,fun b _ _=>rfl,hwf,fun b i hb=>hb.elim⟩
   ·cases hb
   ·cases hb
   ·cases hb
   ·exact absurd hb (Nat.not_lt_zero _)
  obtain⟨_,hc⟩:=k _ _ w vs hp hv;refine(callsIn_wide.1 (hc 0)).mono ?_
  rintro e w' ⟨ρ',hpost,hres⟩;cases e with
  |panicked ch=>exact hres.elim
  |outgrown=>exact hres.elim
  |returned v'=>
   have hu:=hpost.unch;replace hres:VR ρ' (.bool true) v':=hres;cases hres;exact⟨rfl,⟨hu.os,hu.tape,hu.output,hu.size,fun B hB=>hu.block B hB (fun o ⟨e,he,r,h1,_⟩=>by cases h1)⟩⟩
 ·cases h
end
end Go.Proofs.YtnocnbklhikmnaaGreatDoor.Rk
namespace Go.Proofs.YtnocnbklhikmnaaGreatDoor.P
section
variable {f c r e s:UInt8}
end
end Go.Proofs.YtnocnbklhikmnaaGreatDoor.P
namespace Go.Proofs.YtnocnbklhikmnaaGreatDoor
open Go.RowKit

end Go.Proofs.YtnocnbklhikmnaaGreatDoor
namespace Go.Proofs.YtnocnbklhikmnaaGreatDoor.P

end Go.Proofs.YtnocnbklhikmnaaGreatDoor.P
namespace Go.Proofs.YtnocnbklhikmnaaGreatDoor
section
open Go Go.RowKit
section
variable (P:Program) (ops:Array Oper) (R:World->World->Prop) (B:Nat->Option (Value->World->Prop)) (late:List Nat) (w0:World) (F:List Nat)
end
section
variable {P:Program} {ops:Array Oper} {R:World->World->Prop} {B:Nat->Option (Value->World->Prop)} {late:List Nat} {w0:World} {n:Nat} {F:List Nat}
end
end
section
open Go Go.RowKit Go.BigFrame

end
section
open Go Go.RowKit Go.Maps Go.MapKept Go.ChangeMaps
section
variable {P:Program} {k:TypeId} {κ:Type} {enc:κ->Value} {w w':World} {b r n:Nat} {f:κ->Option Value} {todo:κ->Prop}
variable {ops:Array Oper} {rest:List Oper} {o:Oper} {a:Act} {Q:Exit->Act->World->Prop}
end
end
namespace Ad
theorem takeW_nl(p:UInt8->Bool)(hp:p 10=false):∀(l r:Bs),(l++10::r).takeWhile p=l.takeWhile p
 |[],r=>by simp[hp]
 |a::l,r=>by
  by_cases h:p a=true
  ·simp[h,takeW_nl p hp l r]
  ·simp[h]
theorem run_nl(p:UInt8->Bool)(hp:p 10=false)(l r:Bs):run p (l++10::r)=run p l:=by
 unfold run;rw[takeW_nl p hp]
theorem map_some{x:Bs×Nat}{o:Option (Bs×Nat)}{f:Bs×Nat->Bs×Nat}(h:o.map f=some x):∃y,o=some y/\f y=x:=by
 cases o with
 |none=>cases h
 |some y=>exact⟨y,rfl,by simpa using h⟩
theorem text_app(r:Bs):∀(k:Nat) (l:Bs) (x:Bs×Nat),l.length<=k->text l=some x->text (l++r)=some x
 |_,[],x,_,h=>by rw[text_nil] at h;cases h
 |0,c::l,x,hk,_=>by simp at hk
 |k+1,c::l,x,hk,h=>by
  simp at hk;show text (c::(l++r))=some x;by_cases h34:c.toNat=34
  ·rw[text_end h34] at h⊢
   exact h
  by_cases hb:c.toNat<32\/126<c.toNat
  ·rw[text_bad h34 hb] at h
   cases h
  by_cases h92:c.toNat=92
  ·cases l with
   |nil=>rw[text_one h92] at h;cases h
   |cons d l=>
    simp at hk;by_cases he:d.toNat=34\/d.toNat=92
    ·rw[text_esc h92 he] at h
     obtain⟨y,h1,h2⟩:=map_some h;show text (c::d::(l++r))=some x;rw[text_esc h92 he,text_app r k l y (by omega) h1];exact congrArg some h2
    ·by_cases h120:d.toNat=120
     ·match l,hk,h with
      |[],_,h=>rw[text_short h92 (by omega) (by simp)] at h;cases h
      |[a],_,h=>rw[text_short h92 (by omega) (by simp)] at h;cases h
      |a::b::l,hk,h=>
       rw[text_hex h92 h120] at h;show text (c::d::a::b::(l++r))=some x;rw[text_hex h92 h120];cases hu:P.unhex [a,b] with
       |none=>rw[hu] at h;cases h
       |some v=>
        rw[hu] at h;obtain⟨y,h1,h2⟩:=map_some h;simp at hk;simp only;rw[text_app r k l y (by omega) h1];exact congrArg some h2
     ·rw[text_noesc h92 (by omega) h120] at h
      cases h
  ·rw[text_plain h34 (by omega) h92] at h⊢
   obtain⟨y,h1,h2⟩:=map_some h;rw[text_app r k l y (by omega) h1];exact congrArg some h2
theorem take_run(p:UInt8->Bool)(l q:Bs):(l++q).take (run p l)=l.take (run p l):=List.take_append_of_le_length (run_le p l)
theorem pre_nl(l r:Bs):Lib.hasPrefix (l++10::r) [61]=Lib.hasPrefix l [61]:=by
 cases l with
 |nil=>rfl
 |cons a l=>rfl
theorem signN_nl{l:Bs}(r:Bs)(h:l≠[]):signN (l++10::r)=signN l:=by
 cases l with
 |nil=>exact absurd rfl h
 |cons c l=>
  show signN (c::(l++10::r))=_;unfold signN;simp only;rw[pre_nl]
theorem wordX_nl{l:Bs}{t:Tok}{n:Nat}(r:Bs)(h:wordX l= .ok (t,n)):wordX (l++10::r)= .ok (t,n):=by
 cases l with
 |nil=>cases h
 |cons c l=>
  have e1:=run_nl nameC (by decide) (c::l) r;have e2:=run_nl digit (by decide) (c::l) r;have e3:=run_nl pathC (by decide) l r;have t1:=take_run nameC (c::l) (10::r);have t2:=take_run digit (c::l) (10::r);have t3:=take_run pathC l (10::r);have e4:=signN_nl (l:=c::l) r (by simp);have t4:((c::l)++10::r).take (signN (c::l))=(c::l).take (signN (c::l)):=List.take_append_of_le_length (signN_len _);simp only[List.cons_append] at e1 e2 e4 t1 t2 t4;show wordX (c::(l++10::r))=_;unfold wordX at h⊢;simp only at h⊢;rw[e1,e2,e3,e4,t1,t2,t3,t4];by_cases h1:letter c=true
  ·rw[if_pos h1] at h⊢
   exact h
  rw[if_neg h1] at h⊢;by_cases h2:digit c=true
  ·rw[if_pos h2] at h⊢
   exact h
  rw[if_neg h2] at h⊢;by_cases h3:c.toNat=34
  ·rw[if_pos h3] at h⊢
   cases ht:text l with
   |none=>rw[ht] at h;cases h
   |some x=>
    rw[ht] at h;rw[text_app (10::r) l.length l x (n_) ht];exact h
  rw[if_neg h3] at h⊢;exact h
theorem wordX_kind{l:Bs}{t:Tok}{n:Nat}(h:wordX l= .ok (t,n)):t.kind≠0:=by
 cases l with
 |nil=>cases h
 |cons c r=>
  unfold wordX at h;simp only at h
  repeat' split at h
  all_goals first|(cases h;simp;done)|cases h
theorem drop_in(r:Bs):∀l:Bs,(l++10::r).dropWhile inLine=l.dropWhile inLine++10::r
 |[]=>by simp[inLine]
 |a::l=>by
  by_cases h:inLine a=true
  ·simp[h,drop_in r l]
  ·simp[h]
theorem ScanX.nl{l:Bs}{x:Except Int (List Tok)}(h:ScanX l x):∀toks,x= .ok toks->∀(r:Bs) (y:List Tok),ScanX r (.ok y)->ScanX (l++10::r) (.ok (toks++y)):=by
 induction h with
 |nil=>
  intro toks h r y hy;cases h;exact .skip 10 r _ (by unfold blank;decide) hy
 |skip c r x hb _ ih=>
  intro toks h r' y hy;exact .skip c _ _ hb (ih toks h r' y hy)
 |remark c r x hb _ ih=>
  intro toks h r' y hy;refine .remark c _ _ hb ?_;show ScanX ((r++10::r').dropWhile inLine) _;rw[drop_in];exact ih toks h r' y hy
 |bad c r er=>intro toks h;cases h
 |word c r t n x h1 h2 h3 _ ih=>
  intro toks h r' y hy;cases x with
  |error e=>cases h
  |ok q=>
   have h:Except.ok (t::q)=Except.ok toks:=h;cases h;have hn:=(wordX_len h3).2
   have:=ScanX.word c (r++10::r') t n (.ok (q++y)) h1 h2 (wordX_nl r' h3) (by
    have e:(c::(r++10::r')).drop n=(c::r).drop n++10::r':=by
     show((c::r)++10::r').drop n=_
     rw[List.drop_append_of_le_length hn]
    rw[e];exact ih q rfl r' y hy)
   exact this
theorem scan_total:∀(k:Nat) (l:Bs),l.length<=k->∃x,ScanX l x
 |_,[],_=>⟨_,.nil⟩
 |0,c::l,h=>by simp at h
 |k+1,c::l,h=>by
  simp at h;by_cases hb:blank c
  ·obtain⟨x,hx⟩:=scan_total k l h
   exact⟨x,.skip c l x hb hx⟩
  by_cases h35:c.toNat=35
  ·obtain⟨x,hx⟩:=scan_total k (l.dropWhile inLine) (Nat.le_trans (List.dropWhile_sublist inLine).length_le h)
   exact⟨x,.remark c l x h35 hx⟩
  cases hw:wordX (c::l) with
  |error er=>exact⟨_,.bad c l er hb h35 hw⟩
  |ok y=>
   obtain⟨t,n⟩:=y;have hn:=wordX_len hw;obtain⟨x,hx⟩:=scan_total k ((c::l).drop n) (by rw[List.length_drop];simp;omega);exact⟨_,.word c l t n x hb h35 hw hx⟩
theorem scan_cons{c:UInt8}{l:Bs}{t:Tok}{n:Nat}{y:List Tok}(hb:¬blank c)(h35:c.toNat≠35)(hw:wordX (c::l)= .ok (t,n))(h:ScanX ((c::l).drop n) (.ok y)):ScanX (c::l) (.ok (t::y)):=ScanX.word c l t n (.ok y) hb h35 hw h
theorem scan_lp{l:Bs}{y:List Tok}(h:ScanX l (.ok y)):ScanX (40::l) (.ok (Ps.lp::y)):=scan_cons (n:=1) (by unfold blank;decide) (by decide) rfl h
theorem scan_rp{l:Bs}{y:List Tok}(h:ScanX l (.ok y)):ScanX (41::l) (.ok (Ps.rp::y)):=scan_cons (n:=1) (by unfold blank;decide) (by decide) rfl h
theorem scan_sp{l:Bs}{y:List Tok}(h:ScanX l (.ok y)):ScanX (32::l) (.ok y):= .skip 32 l _ (by unfold blank;decide) h
theorem scan_or{l:Bs}{y:List Tok}(h:ScanX l (.ok y)):ScanX (111::114::32::l) (.ok (Ps.tOr::y)):=scan_cons (n:=2) (by unfold blank;decide) (by decide) rfl (scan_sp h)
theorem scan_and{l:Bs}{y:List Tok}(h:ScanX l (.ok y)):ScanX (97::110::100::32::l) (.ok (Ps.tAnd::y)):=scan_cons (n:=3) (by unfold blank;decide) (by decide) rfl (scan_sp h)
theorem scan_not{l:Bs}{y:List Tok}(h:ScanX l (.ok y)):ScanX (110::111::116::32::l) (.ok (Ps.tNot::y)):=scan_cons (n:=3) (by unfold blank;decide) (by decide) rfl (scan_sp h)
end Ad
namespace Ps
theorem kinds_ok{L:List UInt8}{x:Except Int (List Tk)}(h:Ad.ScanX L x):∀toks,x= .ok toks->∀t∈toks,t.kind≠0:=by
 induction h with
 |nil=>intro toks h;cases h;simp
 |skip c r x hb _ ih=>exact ih
 |remark c r x hb _ ih=>exact ih
 |bad=>intro toks h;cases h
 |word c r t n x h1 h2 h3 _ ih=>
  intro toks h;cases x with
  |error e=>cases h
  |ok q=>
   have h:Except.ok (t::q)=Except.ok toks:=h;cases h;intro y hy;rcases List.mem_cons.1 hy with rfl|hy
   ·exact Ad.wordX_kind h3
   ·exact ih q rfl y hy
theorem reads_total(L:List UInt8):∃out,Reads L out:=by
 obtain⟨x,hx⟩:=Ad.scan_total L.length L (n_);cases x with
 |error er=>exact⟨_,_,hx,rfl⟩
 |ok toks=>
  obtain⟨res,hr⟩:=total_or (toks++[endT]) ⟨toks,rfl,kinds_ok hx toks rfl⟩;exact⟨_,_,hx,res,hr,rfl⟩
theorem reads_ok{L:List UInt8}{n:Ns}(h:Reads L (.ok n)):M.isA n 3=true/\∃toks,Ad.ScanX L (.ok toks)/\R (.bin 0) (toks++[endT]) (some (n,[endT])):=by
 obtain⟨x,hx,h⟩:=h;cases x with
 |error er=>cases h
 |ok toks=>
  obtain⟨res,hr,ho⟩:=h;unfold outR at ho;split at ho
  ·rename_i m t q
   split at ho
   ·rename_i hk
    split at ho
    ·rename_i hv
     cases ho;have he:Ends (toks++[endT]):=⟨toks,rfl,fun t ht=>kinds_ok hx toks rfl t ht⟩
     obtain⟨rfl,rfl⟩:=((hr.size trivial _ _ rfl).2.2.2 he).last hk;exact⟨hv,toks,hx,hr⟩
    ·cases ho
   ·cases ho
  ·cases ho
def textOr(a b:List UInt8):List UInt8:=40::(a++10::(41::32::111::114::32::40::(b++[10,41])))
def textDe(a b:List UInt8):List UInt8:=110::111::116::32::40::110::111::116::32::40::(a++10::(41::32::97::110::100::32::110::111::116::32::40::(b++[10,41,41])))
def orN(x y:Ns):Ns:=opN 13 2::(x++y)
def deN(x y:Ns):Ns:=opN 22 1::opN 14 2::((opN 22 1::x)++(opN 22 1::y))
theorem reads_join{a b:List UInt8}{x y:Ns}(ha:Reads a (.ok x))(hb:Reads b (.ok y)):
 Reads (textOr a b) (if M.isA (orN x y) 3=true then .ok (orN x y) else .error 2)/\Reads (textDe a b) (if M.isA (deN x y) 3=true then .ok (deN x y) else .error 2):=by
 obtain⟨-,xa,sa,ra⟩:=reads_ok ha;obtain⟨-,xb,sb,rb⟩:=reads_ok hb;have hb1:Ad.ScanX (b++[10,41]) (.ok (xb++[rp])):=sb.nl _ rfl _ _ (Ad.scan_rp .nil);have hb2:Ad.ScanX (b++[10,41,41]) (.ok (xb++[rp,rp])):=sb.nl _ rfl _ _ (Ad.scan_rp (Ad.scan_rp .nil));constructor
 ·refine⟨_,Ad.scan_lp (sa.nl _ rfl _ _ (Ad.scan_rp (Ad.scan_sp (Ad.scan_or (Ad.scan_lp hb1))))),some (orN x y,[endT]),?_,rfl⟩
  have:=join_or ra rb;unfold orN;simpa using this
 ·refine⟨_,Ad.scan_not (Ad.scan_lp (Ad.scan_not (Ad.scan_lp (sa.nl _ rfl _ _ (Ad.scan_rp (Ad.scan_sp (Ad.scan_and (Ad.scan_not (Ad.scan_lp hb2))))))))),some (deN x y,[endT]),?_,rfl⟩
  have:=join_de ra rb;unfold deN;simpa using this
end Ps
namespace M
theorem eqT_eq{a b:ByteArray}(h:eqT a b=true):a=b:=by
 unfold eqT at h;have:=eq_of_beq h;cases a;cases b;simp only[Array.toList_inj] at this;exact congrArg _ this
theorem eqT_self(a:ByteArray):eqT a a=true:=by unfold eqT;exact beq_self_eq_true _
end M
section
open Go Go.RowKit Go.BigFrame


end
section
open Go Go.RowKit Go.BigFrame Go.Maps Go.WideMaps

theorem expr_all:∀d,ExprOk d
 |0=>expr_zero
 |d+1=>cexpr_any d (expr_all d) (ccall_any d (expr_all d))
section
variable {g mb:Nat} {w w' w'':World}
end

namespace M
end M

namespace M
end M
section
variable {W0 w w':World} {g:Nat} {p:PV} {F u u2 ie ic:Nat} {L:Nat->Bool} {vs:Nat->Value} {m:M.Msg}
end
end
section
open Go Go.RowKit Go.BigFrame


end
section
open Go Go.RowKit Go.BigFrame Go.Maps Go.WideMaps

section
variable {W0 w w':World} {g:Nat} {p:PV} {F u:Nat} {xs:List ByteArray} {s:ByteArray} {L:Nat->Bool} {vs:Nat->Value}
end

namespace M
section
variable {c:Cx} {d:Nat} {s st:St} {ks l:List Tree} {t:Tree} {K F U u2:Nat} {e:Int}
end
end M

namespace M
end M
def M.fuelOf(fuel:Int):Nat:=(min (max fuel 0) 2000).toNat
def newPV(d:M.Delims)(v tv:Value)(now:ByteArray):PV:=⟨d,v,tv,now,.slice none 0 0,.slice none 0 0,false⟩
theorem newPlayer_any(d:M.Delims)(A:Option Addr)(c:Nat)(l:List M.Seg)(S:Nat->Prop)(tv:Value)(now:ByteArray)(fuel:Int)(w:World)(hok:SOk A l.length c)(hl:LAt ESeg w S A l.length l)(hS:∀b,S b->b<w.heap.size)(htv:∃a m n,tv= .slice a m n):
 Calls Tryz.prog 25 #[.agg #[.int .u8 (d.f.toNat:Int),.int .u8 (d.c.toNat:Int),.int .u8 (d.r.toNat:Int),.int .u8 (d.e.toNat:Int),.int .u8 (d.s.toNat:Int),.slice A l.length c],tv,.string now,.int .i64 fuel] w fun e w'=>Below w.heap.size w w'/\∃g A2 c2,e= .returned (.pointer (some ⟨g,0,none⟩))/\w.heap.size<=g/\Blk w' g 77 (PV.cells (newPV (M.canon ⟨d,l⟩).d (.slice A2 (M.canon ⟨d,l⟩).segs.length c2) tv now) (M.fuelOf fuel) 0)/\SOk A2 (M.canon ⟨d,l⟩).segs.length c2/\LAt ESeg w' (fun b=>New w w' b/\b≠g) A2 (M.canon ⟨d,l⟩).segs.length (M.canon ⟨d,l⟩).segs:=by
 have MB:=q_ (Blk.new w 26 #[.int .u8 (d.f.toNat:Int),.int .u8 (d.c.toNat:Int),.int .u8 (d.r.toNat:Int),.int .u8 (d.e.toNat:Int),.int .u8 (d.s.toNat:Int),.slice A l.length c]);have B1:=q_ ((Below.refl _ w).alloc (n_) (.cells #[.int .u8 (d.f.toNat:Int),.int .u8 (d.c.toNat:Int),.int .u8 (d.r.toNat:Int),.int .u8 (d.e.toNat:Int),.int .u8 (d.s.toNat:Int),.slice A l.length c] 26));have KC:=q_ (canonM_any d A c l S (w.alloc (.cells #[.int .u8 (d.f.toNat:Int),.int .u8 (d.c.toNat:Int),.int .u8 (d.r.toNat:Int),.int .u8 (d.e.toNat:Int),.int .u8 (d.s.toNat:Int),.slice A l.length c] 26)) hok (hl.below B1.o hS) (fun b hb=>Nat.lt_of_lt_of_le (hS b hb) B1.o.size));obtain⟨ta,tm,tn,rfl⟩:=htv;generalize M.canon ⟨d,l⟩=m2 at KC⊢;clear hok hl hS;go_enter Tryz.func25,Tryz.ntmps25;go_wp2_with fail;generalize w.alloc (.cells #[.int .u8 (d.f.toNat:Int),.int .u8 (d.c.toNat:Int),.int .u8 (d.r.toNat:Int),.int .u8 (d.e.toNat:Int),.int .u8 (d.s.toNat:Int),.slice A l.length c] 26)=w1 at MB B1 KC⊢;have zm:=MB.o.cell;go_wp2_with fail;refine KC.o.mono ?_;rintro e w2 ⟨A2,c2,rfl,hk2,hl2,hb2⟩;have OK2:=q_ hk2;have L2:=q_ hl2;have B2:=q_ hb2;clear hk2 hl2 hb2 KC zm
 go_wp2_with fail;have hfu:min (max fuel 0) 2000=((M.fuelOf fuel:Nat):Int):=by unfold M.fuelOf;omega
 rw[hfu];clear hfu;have P3:=q_ (Blk.new w2 77 (PV.cells (newPV m2.d (.slice A2 m2.segs.length c2) (.slice ta tm tn) now) (M.fuelOf fuel) 0));have B3:=q_ ((Below.refl _ w2).alloc (n_) (.cells (PV.cells (newPV m2.d (.slice A2 m2.segs.length c2) (.slice ta tm tn) now) (M.fuelOf fuel) 0) 77));unfold PV.cells newPV at P3 B3;go_ret;exact⟨(B1.o.trans (B2.o.mono B1.o.size)).trans (B3.o.mono (Nat.le_trans B1.o.size B2.o.size)),w2.heap.size,A2,c2,rfl,Nat.le_trans B1.o.size B2.o.size,P3.o,OK2.o,(L2.o.below B3.o (fun b hb=>hb.2)).wide (fun b hb=>⟨⟨Nat.le_trans B1.o.size hb.1,Nat.lt_of_lt_of_le hb.2 B3.o.size⟩,by have:=hb.2;omega⟩)⟩
end
section
open Go Go.RowKit Go.BigFrame


def outCells(d:M.Delims)(v r:Value)(st:Bool)(x:M.Val)(used:Int):Array Value:=#[.int .u8 (d.f.toNat:Int),.int .u8 (d.c.toNat:Int),.int .u8 (d.r.toNat:Int),.int .u8 (d.e.toNat:Int),.int .u8 (d.s.toNat:Int),v,r,.bool st,.int .i64 x.kind,.string x.text,.int .i64 x.num,.bool x.truth,.int .i64 used]
end
section
open Go Go.RowKit Go.BigFrame Go.Maps Go.WideMaps
namespace M
def zeroD:Delims:=⟨0,0,0,0,0⟩
end M
theorem tabs_ok{w:World}{S:Nat->Prop}{A:Option Addr}{ts:List M.Table}(h:LAt ETable w S A ts.length ts):∀t∈ts,∀e∈t.entries,e.2.size<=1048576:=by
 intro t ht e he;obtain⟨i,hi,rfl⟩:=List.getElem_of_mem ht;obtain⟨ad,x,cs,rfl,hb,hx,hr,hc⟩:=h.in_ (k:=i) hi;rw[List.getElem?_eq_getElem hi] at hx;cases hx;obtain⟨A2,c2,-,-,-,h2⟩:=ETable.inv hr;obtain⟨j,hj,rfl⟩:=List.getElem_of_mem he;obtain⟨ad,y,cs,rfl,hb,hy,hr,hc⟩:=h2.in_ (k:=j) hj;rw[List.getElem?_eq_getElem hj] at hy;cases hy;exact(EPair.inv hr).2.2
theorem newPV_in{w:World}{g:Nat}{S:Nat->Prop}{m:M.Msg}{tables:List M.Table}{now:ByteArray}{A:Option Addr}{c:Nat}{tA:Option Addr}{tc:Nat}(hg:g<w.heap.size)(hS:∀b,S b->b<w.heap.size/\b≠g)(hnow:now.size<=1048576)(hok:SOk A m.segs.length c)(hl:LAt ESeg w S A m.segs.length m.segs)(htok:SOk tA tables.length tc)(htl:LAt ETable w S tA tables.length tables)(hmx:2<w.heap.size/\2≠g/\∃z,w.cell? ⟨2,0,none⟩=some (.int .i64 z)):
 PlIn w g (fun b=>b=g) S ⟨tables,now⟩ ⟨m,[],false,[]⟩ (newPV m.d (.slice A m.segs.length c) (.slice tA tables.length tc) now) []:=
 ⟨rfl,rfl,rfl,hnow,⟨A,c,rfl,hok,hl⟩,⟨tA,tc,rfl,htok,htl⟩,OwnE.nil (fun b h=>h.elim),OwnE.nil (fun b h=>h.elim),⟨rfl,fun i b s hb=>by simp at hb⟩,List.nodup_nil,fun b hb=>by simp at hb,fun b hb=>by simp[newPV,Value.ownBlock] at hb,fun b hb=>by simp[newPV,Value.ownBlock] at hb,rfl,hS,fun b hb=>by subst hb;exact hg,fun s hs=>by simp at hs,by simp,by simp,tabs_ok htl,hmx⟩
section
variable {W0 w w':World} {m:M.Msg} {i:Nat} {L:Nat->Bool} {vs:Nat->Value}
end
section
variable {W0 w w':World} {rs:List ByteArray} {ok:Prop} {L:Nat->Bool} {vs:Nat->Value}
end
theorem out_res{fn:Func}{p u:Tmp}(hf:fn.results=#[.cell p 39,.tmp u]){W:World}{tmps:Array Value}{g:Nat}{v3:Value}{cs:Array Value}(hW:Blk W g 39 cs)(hl:cs.size=13)(h2:tmps.getD p undef= .pointer (some ⟨g,0,none⟩))(h3:tmps.getD u undef=v3):
 (results fn tmps).run Tryz.prog W= .ok (.tuple #[.agg cs,v3]) W:=by
 rw[results_cell_tmp1 hf,h2,h3];have hi:(Tryz.prog.info? 39).map (·.size)=some cs.size:=by rw[hl];kernel_rfl
 have h:=run_loadVar_row (P:=Tryz.prog) W g 39 39 cs (0,0) _ hW Tryz.underlying39 rfl hi;simp only[asAddr,Sem.run_pure,Result.andThen_ok,h]
end
end Go.Proofs.YtnocnbklhikmnaaGreatDoor
