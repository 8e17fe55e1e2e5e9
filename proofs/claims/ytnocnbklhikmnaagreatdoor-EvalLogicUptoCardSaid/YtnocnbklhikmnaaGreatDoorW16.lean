/- Part 16 of the proof. -/
import Derived.Test.YtnocnbklhikmnaaGreatDoorW6
set_option linter.unusedVariables false
set_option maxRecDepth 1000000
set_option maxHeartbeats 16000000
namespace Go.Proofs.YtnocnbklhikmnaaGreatDoor
variable{v:ByteArray}{α:Type}
section
open Go.RowKit
def nameSet:List UInt8:=[65,66,67,68,69,70,71,72,73,74,75,76,77,78,79,80,81,82,83,84,85,86,87,88,89,90,48,49,50,51,52,53,54,55,56,57]
theorem nameSet_has(b:UInt8):nameSet.contains b=M.nameB b:=by
 have:∀n:Fin 256,nameSet.contains (UInt8.ofNat n.val)=M.nameB (UInt8.ofNat n.val):=by decide
 have h:=this ⟨b.toNat,by exact b.toNat_lt⟩;simpa using h
theorem dropWhile_nil(p:α->Bool)(l:List α):(l.dropWhile p).isEmpty=l.all p:=by
 induction l with
 |nil=>rfl
 |cons x l ih=>
  rw[List.dropWhile_cons,List.all_cons];cases h:p x
  ·simp
  ·simp[ih]
theorem trimS_empty(l cs:List UInt8):(Lib.trimS l cs).isEmpty=l.all (cs.contains ·):=by
 unfold Lib.trimS Lib.trimLeftS;rw[dropWhile_nil];unfold Lib.trimRightS;rw[List.all_reverse];by_cases h:l.all (cs.contains ·)=true
 ·rw[h]
  have:=dropWhile_nil (cs.contains ·) l.reverse;rw[List.all_reverse,h] at this;rw[List.isEmpty_iff.1 this];rfl
 ·have hf:l.all (cs.contains ·)=false:=by simpa using h
  rw[hf];have h2:=dropWhile_nil (cs.contains ·) l.reverse;rw[List.all_reverse,hf] at h2;cases hd:l.reverse.dropWhile (cs.contains ·) with
  |nil=>rw[hd] at h2;simp at h2
  |cons x r=>
   have h4:=List.head?_dropWhile_not (cs.contains ·) l.reverse;rw[hd] at h4;simp only[List.head?_cons] at h4;rw[List.all_cons,h4];rfl
theorem info232:(Tryz.prog.info? 162).map (fun i=>(i.zero,i.size))=some (some (.agg (Array.replicate 256 (.bool false))),256):=by kernel_rfl
theorem trimNames_any(s:ByteArray)(w:World)(hs:s.size<=1048576):
 Calls Tryz.prog 32 #[.string s,.string ⟨#[65,66,67,68,69,70,71,72,73,74,75,76,77,78,79,80,81,82,83,84,85,86,87,88,89,90,48,49,50,51,52,53,54,55,56,57]⟩] w fun e w'=>∃r:ByteArray,e= .returned (.string r)/\r.toList.isEmpty=s.data.toList.all M.nameB/\Below w.heap.size w w':=by
 refine(Tryz.strings_Trim info232 s ⟨nameSet.toArray⟩ w (by omega) (by decide) (ascii_of_all (by decide))).mono fun e w' ⟨he,hb⟩=>⟨_,he,?_,hb⟩
 rw[ByteArray.toList_eq];have:=trimS_empty s.data.toList nameSet;rw[show(fun b=>nameSet.contains b)=M.nameB from funext nameSet_has] at this;simpa using this
theorem isName_any(s:ByteArray)(w:World)(hs:s.size<=1048576):Calls Tryz.prog 12 #[.string s] w fun e w'=>e= .returned (.bool (M.isName s))/\Below w.heap.size w w':=by
 have KT:=q_ (trimNames_any s w hs);by_cases h3:s.size=3
 ·have h0:0<s.size:=by omega
  have HN:M.isName s=(M.upper (s[0]'h0)&&s.data.toList.all M.nameB):=by
   have hl:s.data.toList.length=3:=by simpa using h3
   unfold M.isName;rw[hl]
   have:s.data.toList.getD 0 0=s[0]'h0:=by
    rw[List.getD_eq_getElem?_getD,List.getElem?_eq_getElem (by omega)];rfl
   rw[this];simp
  have HN':=q_ HN;have t1:((s.size:Int) !=3)=false:=by rw[h3];rfl
  clear HN h3;generalize M.isName s=res at*;by_cases ha:(s[0].toNat:Int)<65
  ·have t2:decide ((s[0].toNat:Int)<65)=true:=by simpa using ha
   have HR:=q_ (show res=false from by rw[HN'.o];have:M.upper s[0]=false:=by{unfold M.upper;simp;omega};rw[this];rfl);go_enter Tryz.func12,Tryz.ntmps12;go_wp2_with fail;go_ret;exact⟨by rw[HR.o];rfl,Below.refl _ _⟩
  ·have t2:decide ((s[0].toNat:Int)<65)=false:=by simpa using ha
   by_cases hb:(90:Int)<(s[0].toNat:Int)
   ·have t3:decide ((90:Int)<(s[0].toNat:Int))=true:=by simpa using hb
    have HR:=q_ (show res=false from by rw[HN'.o];have:M.upper s[0]=false:=by{unfold M.upper;simp;omega};rw[this];rfl);go_enter Tryz.func12,Tryz.ntmps12;go_wp2_with fail;go_ret;exact⟨by rw[HR.o];rfl,Below.refl _ _⟩
   ·have t3:decide ((90:Int)<(s[0].toNat:Int))=false:=by simpa using hb
    have HR:=q_ (show res=s.data.toList.all M.nameB from by rw[HN'.o];have:M.upper s[0]=true:=by{unfold M.upper;simp;omega};rw[this];rfl);go_enter Tryz.func12,Tryz.ntmps12;go_wp2_with fail;refine KT.o.mono ?_;rintro e w2 ⟨r,rfl,hr,hb2⟩;have HB:=q_ hb2;have HRR:=q_ hr;clear hb2 hr;go_wp2;go_ret;exact⟨by rw[HR.o,<-HRR.o];rfl,HB.o⟩
 ·have HN:=q_ (show M.isName s=false from by
   have hl:¬s.data.toList.length=3:=by simpa using h3
   unfold M.isName;rw[decide_eq_false hl];rfl)
  have t1:((s.size:Int) !=3)=true:=by simp;omega
  go_enter Tryz.func12,Tryz.ntmps12;go_wp2_with fail;go_ret;exact⟨by rw[HN.o];rfl,Below.refl _ _⟩
theorem LAt.one0{E:Enc α}{w:World}{S:Nat->Prop}{A:Option Addr}{x:α}(hE:E.n=1)(h:LAt E w S A 1 [x]):∃ad u,A=some ad/\S ad.block/\E.R w S [u] x/\w.cell? ad=some u:=by
 obtain⟨ad,y,u,rfl,hb,hx,hr,hc⟩:=h.in1 hE (k:=0) (by omega);simp at hx;subst hx;exact⟨ad,u,rfl,hb,hr,hc⟩
theorem len_eq_one{l:List α}(h:l.length=1):∃x,l=[x]:=by
 match l,h with
 |[x],_=>exact⟨x,rfl⟩
theorem isOne2{a b:List (List ByteArray)}{l:List (List (List ByteArray))}:M.isOne (a::b::l) v=false:=by
 unfold M.isOne;split
 ·rename_i h
  cases h
 ·rfl
theorem isOne1{a b:List ByteArray}{l:List (List ByteArray)}:M.isOne [a::b::l] v=false:=by
 unfold M.isOne;split
 ·rename_i h
  cases h
 ·rfl
theorem isA_any(A:Option Addr)(c:Nat)(f:List (List (List ByteArray)))(v:ByteArray)(S:Nat->Prop)(w:World)(hok:SOk A f.length c)(h:LAt ERep w S A f.length f):Calls Tryz.prog 14 #[.slice A f.length c,.string v] w fun e w'=>e= .returned (.bool (M.isOne f v))/\w=w':=by
 by_cases h1:f.length=1
 ·obtain⟨r,rfl⟩:=len_eq_one h1
  obtain⟨ad,u,rfl,hb,hr,hc⟩:=h.one0 rfl;obtain⟨A1,c1,rfl,ok1,l1⟩:=Enc.list_inv (E:=EComp) hr;clear h hr h1 hok ok1;simp only[List.length_singleton];by_cases h2:r.length=1
  ·obtain⟨q,rfl⟩:=len_eq_one h2
   obtain⟨ad1,u1,rfl,hb1,hr1,hc1⟩:=l1.one0 rfl;obtain⟨A2,c2,rfl,ok2,l2⟩:=Enc.list_inv (E:=EStr) hr1;clear l1 hr1 h2 ok2;simp only[List.length_singleton] at hc;by_cases h3:q.length=1
   ·obtain⟨x,rfl⟩:=len_eq_one h3
    obtain⟨ad2,u2,rfl,hb2,hr2,hc2⟩:=l2.one0 rfl;obtain⟨rfl,_⟩:=EStr.inv hr2;clear l2 hr2 h3;simp only[List.length_singleton] at hc1;have HR:M.isOne [[[x]]] v=(x.toList==v.toList):=by simp[M.isOne,M.eqT,ByteArray.toList_eq]
    rw[HR];go_enter Tryz.func14,Tryz.ntmps14;go_wp2;go_ret;exact⟨rfl,rfl⟩
   ·have HR:M.isOne [[q]] v=false:=by
     match q,h3 with
     |[],_=>rfl
     |_::_::_,_=>rfl
    have t3:((q.length:Int)==1)=false:=by simp;omega
    rw[HR];clear l2 h3 HR;go_enter Tryz.func14,Tryz.ntmps14;go_wp2;go_ret;exact⟨rfl,rfl⟩
  ·have HR:M.isOne [r] v=false:=by
    match r,h2 with
    |[],_=>rfl
    |_::_::_,_=>exact isOne1
   have t3:((r.length:Int)==1)=false:=by simp;omega
   rw[HR];clear l1 h2 HR;go_enter Tryz.func14,Tryz.ntmps14;go_wp2;go_ret;exact⟨rfl,rfl⟩
 ·have HR:M.isOne f v=false:=by
   match f,h1 with
   |[],_=>rfl
   |_::_::_,_=>exact isOne2
  have t3:((f.length:Int)==1)=false:=by simp;omega
  rw[HR];clear h h1 HR hok;generalize f.length=n at*;go_enter Tryz.func14,Tryz.ntmps14;go_wp2;go_ret;exact⟨rfl,rfl⟩
theorem conv_u8(l:List UInt8)(W:World)(k:Nat)(h:W.heap.size=k):(convert 82 9 (.slice (some ⟨k,0,none⟩) l.length l.length)).run Tryz.prog (W.alloc (.cells (cellsU8 l) 5))= .ok (.string ⟨l.toArray⟩) (W.alloc (.cells (cellsU8 l) 5)):=by
 subst h;have:=bytes_string (n:=l.length) (c:=l.length) (Blk.new W 5 (cellsU8 l)) (n_)
 rwa [List.take_length] at this
theorem signs2_any(d:M.Delims)(w:World):Calls Tryz.prog 11 #[.agg #[.int .u8 (d.f.toNat:Int),.int .u8 (d.c.toNat:Int),.int .u8 (d.r.toNat:Int),.int .u8 (d.e.toNat:Int),.int .u8 (d.s.toNat:Int)]] w fun e w'=>e= .returned (.agg #[.string (M.sign1 d),.string (M.sign2 d)])/\Below w.heap.size w w':=by
 have c1:∀(W:World) (k:Nat),W.heap.size=k->(convert 82 9 (.slice (some ⟨k,0,none⟩) 1 1)).run Tryz.prog (W.alloc (.cells #[.int .u8 (d.f.toNat:Int)] 5))= .ok (.string ⟨#[d.f]⟩) (W.alloc (.cells #[.int .u8 (d.f.toNat:Int)] 5)):=fun W k h=>conv_u8 [d.f] W k h;have c4:∀(W:World) (k:Nat),W.heap.size=k->(convert 82 9 (.slice (some ⟨k,0,none⟩) 4 4)).run Tryz.prog (W.alloc (.cells #[.int .u8 (d.c.toNat:Int),.int .u8 (d.r.toNat:Int),.int .u8 (d.e.toNat:Int),.int .u8 (d.s.toNat:Int)] 5))= .ok (.string ⟨#[d.c,d.r,d.e,d.s]⟩) (W.alloc (.cells #[.int .u8 (d.c.toNat:Int),.int .u8 (d.r.toNat:Int),.int .u8 (d.e.toNat:Int),.int .u8 (d.s.toNat:Int)] 5)):=fun W k h=>conv_u8 [d.c,d.r,d.e,d.s] W k h;go_enter Tryz.func11,Tryz.ntmps11;go_wp2;refine bodyPost_ret (v:= .agg #[.string (M.sign1 d),.string (M.sign2 d)]) (by simp[results,Tryz.results11,go_sem,M.sign1,M.sign2,M.T]) rfl ⟨rfl,?_⟩;exact(((((Below.refl _ _).alloc (n_) _).alloc (by simp) _).alloc (by simp;omega) _).alloc (by simp;omega) _)
end
section
open Go Go.RowKit Go.BigFrame
theorem path_held:Tryz.prog.stoodInHeld 135=false:=by kernel_rfl
theorem path_fields:∃g0 g1 g2 g3 g4 g5:Field,Tryz.prog.underlying 135=some (.struct #[g0,g1,g2,g3,g4,g5])/\(g0.type=9/\g0.offset=0/\(g0.name≠ "_"))/\(g1.type=3/\g1.offset=1/\(g1.name≠ "_"))/\(g2.type=3/\g2.offset=2/\(g2.name≠ "_"))/\(g3.type=3/\g3.offset=3/\(g3.name≠ "_"))/\(g4.type=3/\g4.offset=4/\(g4.name≠ "_"))/\(g5.type=3/\g5.offset=5/\(g5.name≠ "_")):=
 ⟨_,_,_,_,_,_,Tryz.underlying135,⟨rfl,rfl,by decide⟩,⟨rfl,rfl,by decide⟩,⟨rfl,rfl,by decide⟩,⟨rfl,rfl,by decide⟩,⟨rfl,rfl,by decide⟩,⟨rfl,rfl,by decide⟩⟩
theorem eql_path(s:ByteArray)(o a b c d:Int)(W:World):(binOp .eql 135 (.agg #[.string s,.int .i64 o,.int .i64 a,.int .i64 b,.int .i64 c,.int .i64 d]) (.agg #[.string s,.int .i64 o,.int .i64 0,.int .i64 0,.int .i64 0,.int .i64 0])).run Tryz.prog W= .ok (.bool (decide (a=0/\b=0/\c=0/\d=0))) W:=by
 obtain⟨g0,g1,g2,g3,g4,g5,hu,⟨t0,o0,n0⟩,⟨t1,o1,n1⟩,⟨t2,o2,n2⟩,⟨t3,o3,n3⟩,⟨t4,o4,n4⟩,⟨t5,o5,n5⟩⟩:=path_fields;have hf:Tryz.prog.fieldsOf 135=#[g0,g1,g2,g3,g4,g5]:=by simp[Program.fieldsOf,hu]
 rw[run_eql_struct,run_equalIn_struct W 9999 _ _ _ (by rw[hu,hf]) path_held,hf];by_cases h0:a=0<;>by_cases h1:b=0<;>by_cases h2:c=0<;>by_cases h3:d=0<;>simp[Op.eqFields,n0,n1,n2,n3,n4,n5,t0,t1,t2,t3,t4,t5,o0,o1,o2,o3,o4,o5,go_sem,h0,h1,h2,h3]
theorem pvIn_any(n:Int)(w:World):Calls Tryz.prog 228 #[.int .i64 n] w fun e w'=>e= .returned (.bool (M.inR n))/\Below w.heap.size w w':=by
 go_enter Tryz.func228,Tryz.ntmps228;by_cases h1:1<=n
 ·have q1:decide (1<=n)=true:=by simp[h1]
  by_cases h2:n<=200
  ·have q2:decide (n<=200)=true:=by simp[h2]
   go_wp2;go_ret;exact⟨by simp[M.inR,h1,h2],Below.refl _ _⟩
  ·have q2:decide (n<=200)=false:=by simp[h2]
   go_wp2;go_ret;exact⟨by simp[M.inR,h1];omega,Below.refl _ _⟩
 ·have q1:decide (1<=n)=false:=by simp[h1]
  go_wp2;go_ret;exact⟨by simp[M.inR];omega,Below.refl _ _⟩
theorem pathValid_any(p:M.Path)(w:World)(hs:p.seg.size<=1048576):
 Calls Tryz.prog 137 #[.agg #[.string p.seg,.int .i64 p.occ,.int .i64 p.fld,.int .i64 p.rep,.int .i64 p.comp,.int .i64 p.sub]] w fun e w'=>e= .returned (.bool (M.pathOk p))/\Below w.heap.size w w':=by
 have KN:=q_ (fun(w':World)=>isName_any p.seg w' hs);have KI:=q_ (fun(w':World) (n:Int)=>pvIn_any n w');have te:=eql_path p.seg p.occ p.fld p.rep p.comp p.sub;obtain⟨w1,hw1⟩:∃w1,w1=w.alloc (.cells #[.string p.seg,.int .i64 p.occ,.int .i64 p.fld,.int .i64 p.rep,.int .i64 p.comp,.int .i64 p.sub] 135):=⟨_,rfl⟩
 have E1:=q_ (show Blk w1 w.heap.size 135 #[.string p.seg,.int .i64 p.occ,.int .i64 p.fld,.int .i64 p.rep,.int .i64 p.comp,.int .i64 p.sub] from hw1▸Blk.new w _ _);have B1:=q_ (show Below w.heap.size w w1 from hw1▸(Below.refl _ w).alloc (n_) _);have hz1:w.heap.size+1<=w1.heap.size:=by rw[hw1];simp
 go_enter Tryz.func137,Tryz.ntmps137;go_wp2_with fail;rw[<-hw1];have z1:=(E1.o.below (Below.refl w1.heap.size w1) (by omega)).cell;clear hw1;have G1:=q_ (Below.refl w1.heap.size w1);refine(KN.o _).mono ?_
 rintro _ w2 ⟨rfl,hb⟩;have B2:=q_ (B1.o.trans (hb.mono B1.o.size));have G2:=q_ (G1.o.trans (hb.mono G1.o.size));have z1:=(E1.o.below G2.o (by omega)).cell;clear hb;cases hN:M.isName p.seg
 ·go_wp2_with fail
  go_ret;exact⟨by simp[M.pathOk,hN],B2.o⟩
 ·go_wp2_with fail
  refine(KI.o _ _).mono ?_
  rintro _ w3 ⟨rfl,hb⟩;have B3:=q_ (B2.o.trans (hb.mono B2.o.size));have G3:=q_ (G2.o.trans (hb.mono G2.o.size));have z1:=(E1.o.below G3.o (by omega)).cell;clear hb;cases hO:M.inR p.occ
  ·go_wp2_with fail
   go_ret;exact⟨by simp[M.pathOk,hN,hO],B3.o⟩
  ·by_cases hz:p.fld=0/\p.rep=0/\p.comp=0/\p.sub=0
   ·have qz:decide (p.fld=0/\p.rep=0/\p.comp=0/\p.sub=0)=true:=decide_eq_true hz
    go_wp2_with fail;go_ret;exact⟨by simp[M.pathOk,hN,hO,hz],B3.o⟩
   ·have qz:decide (p.fld=0/\p.rep=0/\p.comp=0/\p.sub=0)=false:=decide_eq_false hz
    go_wp2_with fail;refine(KI.o _ _).mono ?_
    rintro _ w4 ⟨rfl,hb⟩;have B4:=q_ (B3.o.trans (hb.mono B3.o.size));have G4:=q_ (G3.o.trans (hb.mono G3.o.size));have z1:=(E1.o.below G4.o (by omega)).cell;clear hb;cases h0:M.inR p.fld
    ·go_wp2_with fail
     go_ret;exact⟨by simp[M.pathOk,hN,hO,qz,h0],B4.o⟩
    ·go_wp2_with fail
     refine(KI.o _ _).mono ?_
     rintro _ w5 ⟨rfl,hb⟩;have B5:=q_ (B4.o.trans (hb.mono B4.o.size));have G5:=q_ (G4.o.trans (hb.mono G4.o.size));have z1:=(E1.o.below G5.o (by omega)).cell;clear hb;cases h1:M.inR p.rep
     ·go_wp2_with fail
      go_ret;exact⟨by simp[M.pathOk,hN,hO,qz,h0,h1],B5.o⟩
     ·go_wp2_with fail
      refine(KI.o _ _).mono ?_
      rintro _ w6 ⟨rfl,hb⟩;have B6:=q_ (B5.o.trans (hb.mono B5.o.size));have G6:=q_ (G5.o.trans (hb.mono G5.o.size));have z1:=(E1.o.below G6.o (by omega)).cell;clear hb;cases h2:M.inR p.comp
      ·go_wp2_with fail
       go_ret;exact⟨by simp[M.pathOk,hN,hO,qz,h0,h1,h2],B6.o⟩
      ·go_wp2_with fail
       refine(KI.o _ _).mono ?_
       rintro _ w7 ⟨rfl,hb⟩;have B7:=q_ (B6.o.trans (hb.mono B6.o.size));have G7:=q_ (G6.o.trans (hb.mono G6.o.size));have z1:=(E1.o.below G7.o (by omega)).cell;clear hb;cases h3:M.inR p.sub
       ·go_wp2_with fail
        go_ret;exact⟨by simp[M.pathOk,hN,hO,qz,h0,h1,h2,h3],B7.o⟩
       ·go_wp2_with fail
        go_ret;exact⟨by simp[M.pathOk,hN,hO,qz,h0,h1,h2,h3],B7.o⟩
end
end Go.Proofs.YtnocnbklhikmnaaGreatDoor
