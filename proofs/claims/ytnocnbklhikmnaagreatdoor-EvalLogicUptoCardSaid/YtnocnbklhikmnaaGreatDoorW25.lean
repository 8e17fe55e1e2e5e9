/- Part 25 of the proof. -/
import Derived.Test.YtnocnbklhikmnaaGreatDoorW13
set_option linter.unusedVariables false
set_option maxRecDepth 1000000
set_option maxHeartbeats 16000000
namespace Go.Proofs.YtnocnbklhikmnaaGreatDoor
section
open Go.RowKit Go.BigFrame
theorem nibble_any(c:UInt8)(w:World):
 Calls Tryz.prog 239 #[.int .u8 (c.toNat:Int)] w fun e w'=>e= .returned (.int .i64 (P.nib c))/\w=w':=by
 have hb:=c.toNat_lt;have hn:P.nib c=if 48<=c.toNat/\c.toNat<=57 then(c.toNat:Int)-48 else if 97<=c.toNat/\c.toNat<=102 then(c.toNat:Int)-87 else if 65<=c.toNat/\c.toNat<=70 then(c.toNat:Int)-55 else-1:=rfl
 generalize P.nib c=r at*;generalize c.toNat=n at*;rcases(by omega:n<48\/(48<=n/\n<=57)\/(57<n/\n<65)\/(65<=n/\n<=70)\/(70<n/\n<97)\/(97<=n/\n<=102)\/(102<n)) with h|⟨h,h'⟩|⟨h,h'⟩|⟨h,h'⟩|⟨h,h'⟩|⟨h,h'⟩|h<;>
 (have hr:r=if 48<=n/\n<=57 then(n:Int)-48 else if 97<=n/\n<=102 then(n:Int)-87 else if 65<=n/\n<=70 then(n:Int)-55 else-1:=hn
  have HR:=q_ hr;clear hn hr;go_enter Tryz.func239,Tryz.ntmps239;go_wp2;go_ret;refine⟨?_,rfl⟩;have h2:=HR.o
  repeat(first|rw[if_pos (by omega)] at h2|rw[if_neg (by omega)] at h2)
  rw[h2]
  first|rfl|(refine congrArg (fun x=>Ending.returned (Value.int .i64 x)) ?_;omega))
theorem unhex_any_cm(na nb:Nat)(ha:na<16)(hb:nb<16):bits BinOp.or IntKind.i64 ((na:Int)*16) (nb:Int)%256=(((UInt8.ofNat (16*na+nb)).toNat:Nat):Int):=by
 rw[show((na:Int)*16)=((na*16:Nat):Int) from by omega,i64_or_nat _ _ (by omega) (by omega)];have h:=Nat.two_pow_add_eq_or_of_lt (i:=4) hb na;rw[show 2^4*na=na*16 from by omega] at h;rw[<-h];simp;omega
theorem unhex_any(s:ByteArray)(w:World)(hs:s.size<=281474976710656):
 Calls Tryz.prog 182 #[.string s] w fun e w'=>e= .returned (.tuple #[.string ⟨(P.unhexS s.data.toList).toArray⟩,.int .i64 (P.unhexE s.data.toList)])/\Below w.heap.size w w':=by
 by_cases hodd:s.size%2=1
 ·have hu:=P.unhex_odd s.data.toList (by simpa using hodd)
  have HS:=q_ (show P.unhexS s.data.toList=[] from by simp[P.unhexS,hu]);have HE:=q_ (show P.unhexE s.data.toList=10 from by simp[P.unhexE,hu]);have ht:((s.size:Int)%2 !=0)=true:=by rw[bne_iff_ne];omega
  clear hu hodd;go_enter Tryz.func182,Tryz.ntmps182;go_wp2;go_ret2;rw[HS.o,HE.o];exact⟨rfl,Below.refl _ _⟩
 ·have ht:((s.size:Int)%2 !=0)=false:=by rw[Bool.eq_false_iff,ne_eq,bne_iff_ne];omega
  have hmk:∀W:World,(Instr.makeSlice 82 (.int .i64 0) (.int .i64 ((s.size:Int)/2))).run Tryz.prog W= .ok (.slice (some ⟨W.heap.size,0,none⟩) 0 (s.size/2)) (W.alloc (.cells (cellsU8 (List.replicate (s.size/2) 0)) 5)):=fun W=>by
   have:=make_bytes .i64 .i64 0 (s.size/2) (by omega) (by omega) W;rw[show(((s.size/2:Nat)):Int)=(s.size:Int)/2 from by omega] at this;exact this
  have Hown:=q_ (OwnB.made w (s.size/2) (by unfold maxLen;omega));go_enter Tryz.func182,Tryz.ntmps182;go_wp2_with fail;go_loopw [4,5] (fun v x wr=>∃k:Nat,∃acc:List UInt8,2*k<=s.size/\x= .int .i64 (2*(k:Int))/\acc.length=k/\v= .slice (some ⟨w.heap.size,0,none⟩) acc.length (s.size/2)/\P.unhex s.data.toList=(P.unhex (s.data.toList.drop (2*k))).map (acc++·)/\OwnB wr w.heap.size v acc/\Below w.heap.size w wr) (fun _ x _=>s.size-(intOf x).toNat)
  case atStart=>exact⟨0,[],by omega,by simp,rfl,rfl,by simp,Hown.o,(Below.refl _ _).alloc (n_) _⟩
  case round=>
   obtain⟨k,acc,hk,rfl,hacc,rfl,hun,hown,hbel⟩:=hrel;by_cases hlt:2*k<s.size
   ·have hlt2:2*k+1<s.size:=by omega
    have hd:s.data.toList.drop (2*k)=s[2*k]::s[2*k+1]::s.data.toList.drop (2*k+2):=by
     rw[List.drop_eq_getElem_cons (by simpa using hlt),List.drop_eq_getElem_cons (by simpa using hlt2)];rfl
    rw[hd] at hun;have hx16:=P.nib_lt s[2*k];have hy16:=P.nib_lt s[2*k+1];have e1:∀r:List UInt8,P.unhex (s[2*k]::s[2*k+1]::r)=if P.nib s[2*k]<0\/P.nib s[2*k+1]<0 then none else(P.unhex r).map (UInt8.ofNat (16*(P.nib s[2*k]).toNat+(P.nib s[2*k+1]).toNat)::·):=fun r=>rfl
    have hi1:∀W:World,(Instr.index 9 (.string s) (.int .i64 (2*(k:Int)))).run Tryz.prog W= .ok (.int .u8 (s[2*k].toNat:Int)) W:=fun W=>idx_atu s (2*k) hlt (by omega) W;have hi2:∀W:World,(Instr.index 9 (.string s) (.int .i64 (2*(k:Int)+1))).run Tryz.prog W= .ok (.int .u8 (s[2*k+1].toNat:Int)) W:=fun W=>idx_atu s (2*k+1) hlt2 (by omega) W;rw[e1] at hun;have HUN:=q_ hun;have Hacc:=q_ hacc;have hwr:IntKind.i64.wrap (2*(k:Int)+1)=2*(k:Int)+1:=by rw[IntKind.wrap_i64];omega
    clear hun e1 hd hacc;go_wp2_with fail;refine wp_region_ext (by kernel_rfl) (by kernel_rfl) ?_
    repeat(first|go_big_quiet_step ((go_at_call 239;exact Ext.calls_same _ (nibble_any _ _)))|quiet_step ((go_at_call 239;exact Ext.calls_same _ (nibble_any _ _))))
    refine wpQuiet_nil ?_;intro w2 hb2;have hbel2:=hbel.trans (hb2.mono hbel.size);have hown2:=hown.below hb2 (n_);clear hbel hb2 hown hwr;generalize P.nib s[2*k]=x at*;generalize P.nib s[2*k+1]=y at*;by_cases hbad:x<0\/y<0
    ·have hun:=HUN.o
     rw[if_pos hbad] at hun;have HS:=q_ (show P.unhexS s.data.toList=[] from by simp[P.unhexS,hun]);have HE:=q_ (show P.unhexE s.data.toList=10 from by simp[P.unhexE,hun]);clear hun;rcases(by omega:x<0\/(0<=x/\y<0)) with h|⟨h,h'⟩
     ·clear hbad
      go_wp2;go_ret2;rw[HS.o,HE.o];exact⟨rfl,hbel2⟩
     ·clear hbad
      go_wp2;go_ret2;rw[HS.o,HE.o];exact⟨rfl,hbel2⟩
    ·have hun:=HUN.o
     rw[if_neg hbad] at hun;obtain⟨na,rfl⟩:=Int.eq_ofNat_of_zero_le (by omega:0<=x);obtain⟨nb,rfl⟩:=Int.eq_ofNat_of_zero_le (by omega:0<=y);have hcm:=unhex_any_cm na nb (by omega) (by omega);have HUN2:=q_ hun;clear hbad hun;have hle:acc.length+1<=s.size/2:=by have:=Hacc.o;omega
     go_wp2_with (at_builtin;refine wpList_append_bytes_fits rfl (.tmp 37) (.tmp 43) rfl w.heap.size w.heap.size (s.size/2) acc rfl (hown2.alloc _) ⟨w2.heap.size,0,none⟩ 1 1 [UInt8.ofNat (16*na+nb)] rfl rfl (newsU8 w2 5 [UInt8.ofNat (16*na+nb)]) (by simpa using hle) (by have:=hbel2.size;simp;omega) ?_;intro w3 hown3 hbel3);have Hb3:=q_ (show Below w.heap.size w w3 from(hbel2.alloc hbel2.size _).trans hbel3);clear hbel3 hcm;go_wp2;go_roundw
     case rel=>exact⟨k+1,acc++[UInt8.ofNat (16*na+nb)],by omega,by go_num,by have:=Hacc.o;simp;omega,by simp,by
      have h:=HUN2.o;simp only[Int.toNat_natCast] at h;rw[h,show 2*(k+1)=2*k+2 from by omega,Option.map_map];congr 1;funext z;simp,by simpa using hown3,Hb3.o⟩
     case measure=>simp[intOf];omega
   ·have hks:2*k=s.size:=by omega
    have hun2:=hun;rw[hks,List.drop_eq_nil_of_le (by simp)] at hun2;have HS:=q_ (show P.unhexS s.data.toList=acc from by simp[P.unhexS,hun2,P.unhex]);have HE:=q_ (show P.unhexE s.data.toList=0 from by simp[P.unhexE,hun2,P.unhex]);have hst:=hown.string;clear hun hun2 hown hacc hks;go_wp2;go_ret2;rw[HS.o,HE.o];exact⟨rfl,hbel⟩
end
section
open Go Go.RowKit Go.BigFrame
namespace Ad
def textV(l:Bs):Bs:=match text l with|none=>[]|some x=>x.1
def textN(l:Bs):Nat:=match text l with|none=>0|some x=>x.2+1
def TextAt(s:Bs)(k:Nat)(out:Bs):Prop:=text (s.drop 1)=(text (s.drop k)).map fun y=>(out++y.1,y.2+(k-1))
theorem TextAt.none{s out:Bs}{k:Nat}(h:TextAt s k out)(hn:text (s.drop k)=none):textV (s.drop 1)=[]/\textN (s.drop 1)=0:=by
 unfold TextAt at h;unfold textV textN;rw[h,hn];exact⟨rfl,rfl⟩
theorem TextAt.end_{s out:Bs}{k:Nat}(h:TextAt s k out)(hk:1<=k)(hn:text (s.drop k)=some ([],1)):textV (s.drop 1)=out/\textN (s.drop 1)=k+1:=by
 unfold TextAt at h;unfold textV textN;rw[h,hn];simp;omega
theorem TextAt.go{s out v:Bs}{k j:Nat}(h:TextAt s k out)(hk:1<=k)(hn:text (s.drop k)=(text (s.drop (k+j))).map fun y=>(v++y.1,y.2+j)):TextAt s (k+j) (out++v):=by
 unfold TextAt at h⊢;rw[h,hn];cases text (s.drop (k+j)) with
 |none=>rfl
 |some y=>simp;omega
end Ad
theorem text_any(s:ByteArray)(w:World)(hs:s.size<=1000000)(h0:0<s.size):
 Calls Tryz.prog 216 #[.string s] w fun e w'=>e= .returned (.tuple #[.string ⟨(Ad.textV (s.data.toList.drop 1)).toArray⟩,.int .i64 (Ad.textN (s.data.toList.drop 1):Nat)])/\Below w.heap.size w w':=by
 obtain⟨L,hL⟩:∃L,L=s.data.toList:=⟨_,rfl⟩
 have HLen:=q_ (show L.length=s.size by rw[hL];simp);obtain⟨V,hV⟩:∃V,V=Ad.textV (L.drop 1):=⟨_,rfl⟩
 obtain⟨N,hN⟩:∃N,N=Ad.textN (L.drop 1):=⟨_,rfl⟩
 rw[<-hL,<-hV,<-hN];have HV:=q_ hV;have HN:=q_ hN;have HL:=q_ hL;clear hV hN hL;go_enter Tryz.func216,Tryz.ntmps216;go_wp2_with fail;go_loopw [4,5] (fun v x wr=>∃(k:Nat) (out:Ad.Bs),x= .int .i64 k/\1<=k/\k<=s.size/\out.length<=k/\Ad.TextAt L k out/\OwnB wr w.heap.size v out/\Below w.heap.size w wr) (fun _ x _=>s.size-(intOf x).toNat)
 case atStart=>exact⟨1,[],rfl,by omega,by omega,by simp,by unfold Ad.TextAt;cases Ad.text (L.drop 1)<;>simp,OwnB.nil _ _,Below.refl _ _⟩
 case round=>
  obtain⟨k,out,rfl,hk1,hk,hol,hat,hown,hbel⟩:=hrel;have HAT:=q_ hat;clear hat;by_cases hlt:k<s.size
  ·have hd:L.drop k=s[k]::L.drop (k+1):=by
    rw[HL.o,List.drop_eq_getElem_cons (by simpa using hlt)];rfl
   have HD:=q_ hd;clear hd;have hi1:∀W:World,(Instr.index 9 (.string s) (.int .i64 (k:Int))).run Tryz.prog W= .ok (.int .u8 (s[k].toNat:Int)) W:=fun W=>idx_atu s k hlt rfl W;have hc:=s[k].toNat_lt;generalize s[k]=c at*;by_cases c34:c.toNat=34
   ·obtain⟨e1,e2⟩:=HAT.o.end_ hk1 (by rw[HD.o];exact Ad.text_end c34)
    rw[<-HV.o] at e1;rw[<-HN.o] at e2;have E1:=q_ e1;have E2:=q_ e2;have hst:=hown.string;have hq:((c.toNat:Int)==34)=true:=by rw[c34];rfl
    clear e1 e2 c34;go_wp2_with fail;go_ret2;rw[E1.o,E2.o];exact⟨rfl,hbel⟩
   ·have q1:((c.toNat:Int)==34)=false:=by rw[beq_eq_false_iff_ne];omega
    by_cases cb:c.toNat<32\/126<c.toNat
    ·obtain⟨e1,e2⟩:=HAT.o.none (by rw[HD.o];exact Ad.text_bad c34 cb)
     rw[<-HV.o] at e1;rw[<-HN.o] at e2;have E1:=q_ e1;have E2:=q_ e2;clear e1 e2;rcases(by omega:c.toNat<32\/(¬c.toNat<32/\126<c.toNat)) with h|⟨h,h'⟩
     all_goals
      clear cb c34;go_wp2_with fail;go_ret2;rw[E1.o,E2.o];exact⟨rfl,hbel⟩
    ·have h32:¬c.toNat<32:=by omega
     have h126:¬126<c.toNat:=by omega
     by_cases c92:c.toNat=92
     ·have q2:((c.toNat:Int) !=92)=false:=by rw[c92];rfl
      by_cases hl1:k+1<s.size
      ·have hd2:L.drop (k+1)=s[k+1]::L.drop (k+2):=by
        rw[HL.o,List.drop_eq_getElem_cons (by simpa using hl1)];rfl
       have HD2:=q_ (show L.drop k=c::s[k+1]::L.drop (k+2) by rw[HD.o,hd2]);clear hd2;have hi2:∀W:World,(Instr.index 9 (.string s) (.int .i64 ((k:Int)+1))).run Tryz.prog W= .ok (.int .u8 (s[k+1].toNat:Int)) W:=fun W=>idx_atu s (k+1) hl1 (by omega) W;have hdb:=s[k+1].toNat_lt;generalize s[k+1]=d at*;by_cases hesc:d.toNat=34\/d.toNat=92
       ·have HA:=q_ (HAT.o.go (j:=2) (v:=[d]) hk1 (by rw[HD2.o];exact Ad.text_esc c92 hesc))
        obtain⟨x1,hx1⟩:∃x,((d.toNat:Int)==34)=x:=⟨_,rfl⟩
        obtain⟨x2,hx2⟩:∃x,((d.toNat:Int)==92)=x:=⟨_,rfl⟩
        have hxx:x1=true\/(x1=false/\x2=true):=by
         rcases hesc with h|h
         ·left;rw[<-hx1,h];rfl
         ·right;exact⟨by rw[<-hx1,h];rfl,by rw[<-hx2,h];rfl⟩
        clear hesc c34 cb c92;rcases hxx with rfl|⟨rfl,rfl⟩
        all_goals
         go_wp2_with (at_builtin;refine wpList_append_bytes rfl (.tmp 61) (.tmp 65) rfl w.heap.size _ out rfl (hown.alloc _) ⟨wr.heap.size,0,none⟩ 1 1 [d] rfl rfl (newsU8 wr 5 [d]) (by simp;omega) (by have:=hbel.size;simp;omega) ?_;intro o4 w4 hown4 hb4);have Hb4:=q_ (show Below w.heap.size w w4 from(hbel.alloc hbel.size _).trans hb4);clear hb4 hbel hown hi1 hi2;go_wp2_with fail;go_roundw
         case rel=>exact⟨k+2,out++[d],by go_num,by omega,by omega,by simp;omega,HA.o,hown4,Hb4.o⟩
         case measure=>simp[intOf];omega
       ·have y1:((d.toNat:Int)==34)=false:=by rw[beq_eq_false_iff_ne];omega
        have y2:((d.toNat:Int)==92)=false:=by rw[beq_eq_false_iff_ne];omega
        by_cases hl3:k+3<s.size
        ·by_cases d120:d.toNat=120
         ·have y3:((d.toNat:Int) !=120)=false:=by rw[d120];rfl
          have hd3:L.drop (k+2)=s[k+2]::s[k+3]::L.drop (k+4):=by
           rw[HL.o,List.drop_eq_getElem_cons (by simpa using(by omega:k+2<s.size)),List.drop_eq_getElem_cons (by simpa using hl3)];rfl
          have hsub:(s.extract (k+2) (k+4)).data.toList=[s[k+2],s[k+3]]:=by
           have:=ext_mid s (k+2) 2;rw[<-HL.o,hd3] at this;simpa using this
          have KU:=unhex_any (s.extract (k+2) (k+4)) wr (by rw[ByteArray.size_extract];omega);rw[hsub] at KU
          have HT:Ad.text (L.drop k)=match P.unhex [s[k+2],s[k+3]] with|none=>none|some v=>(Ad.text (L.drop (k+4))).map fun x=>(v++x.1,x.2+4):=by
           rw[HD2.o,hd3];exact Ad.text_hex c92 d120
          have HU4:∀u,P.unhex [s[k+2],s[k+3]]=some u->u.length=1:=fun u hu=>by
           have e:P.unhex [s[k+2],s[k+3]]=if P.nib s[k+2]<0\/P.nib s[k+3]<0 then none else(P.unhex []).map (UInt8.ofNat (16*(P.nib s[k+2]).toNat+(P.nib s[k+3]).toNat)::·):=rfl
           rw[e] at hu;split at hu
           ·cases hu
           ·simp[P.unhex] at hu
            subst hu;rfl
          have hsz2:(s.extract (k+2) (k+4)).size=2:=by rw[ByteArray.size_extract];omega
          unfold P.unhexS P.unhexE at KU;generalize P.unhex [s[k+2],s[k+3]]=ux at*;cases ux with
          |none=>
           obtain⟨e1,e2⟩:=HAT.o.none HT;rw[<-HV.o] at e1;rw[<-HN.o] at e2;have E1:=q_ e1;have E2:=q_ e2;have KK:=q_ KU;clear e1 e2 c34 cb c92 hesc d120 KU HT HU4 hd3 hsub;go_wp2_with fail;refine KK.o.mono ?_;rintro e w2 ⟨rfl,hb2⟩;go_wp2_with fail;go_ret2;rw[E1.o,E2.o];exact⟨rfl,hbel.trans (hb2.mono hbel.size)⟩
          |some u=>
           have HA:=q_ (HAT.o.go (j:=4) (v:=u) hk1 HT);have HU:=q_ (HU4 u rfl);have KK:=q_ KU;clear c34 cb c92 hesc d120 KU HT HU4 hd3 hsub;go_wp2_with fail;refine KK.o.mono ?_;rintro e w2 ⟨rfl,hb2⟩;have hown2:=hown.below hb2 (n_);have hbel2:=hbel.trans (hb2.mono hbel.size);clear hown hbel hb2 KK;go_wp2_with (at_builtin;refine wpList_append_str rfl (.tmp 92) (.tmp 93) rfl w.heap.size _ out rfl hown2 ⟨u.toArray⟩ rfl (by have:=HU.o;show out.length+u.length<=_;omega) hbel2.size ?_;intro o4 w4 hown4 hb4);have Hb4:=q_ (show Below w.heap.size w w4 from hbel2.trans hb4);clear hb4 hbel2 hown2 hi1 hi2;go_wp2_with fail;go_roundw
           case rel=>exact⟨k+4,out++u,by go_num,by omega,by omega,by have:=HU.o;simp;omega,HA.o,hown4,Hb4.o⟩
           case measure=>simp[intOf];omega
         ·obtain⟨e1,e2⟩:=HAT.o.none (by rw[HD2.o];exact Ad.text_noesc c92 (by omega) d120)
          rw[<-HV.o] at e1;rw[<-HN.o] at e2;have E1:=q_ e1;have E2:=q_ e2;have y3:((d.toNat:Int) !=120)=true:=by rw[bne_iff_ne];omega
          clear e1 e2 c34 cb c92 hesc d120;go_wp2_with fail;go_ret2;rw[E1.o,E2.o];exact⟨rfl,hbel⟩
        ·obtain⟨e1,e2⟩:=HAT.o.none (by rw[HD2.o];exact Ad.text_short c92 (by omega) (by rw[List.length_drop,HLen.o];omega))
         rw[<-HV.o] at e1;rw[<-HN.o] at e2;have E1:=q_ e1;have E2:=q_ e2;clear e1 e2 c34 cb c92 hesc;go_wp2_with fail;go_ret2;rw[E1.o,E2.o];exact⟨rfl,hbel⟩
      ·have hd2:L.drop (k+1)=[]:=List.drop_eq_nil_of_le (by rw[HLen.o];omega)
       obtain⟨e1,e2⟩:=HAT.o.none (by rw[HD.o,hd2];exact Ad.text_one c92);rw[<-HV.o] at e1;rw[<-HN.o] at e2;have E1:=q_ e1;have E2:=q_ e2;clear e1 e2 c34 cb c92 hd2;go_wp2_with fail;go_ret2;rw[E1.o,E2.o];exact⟨rfl,hbel⟩
     ·have q2:((c.toNat:Int) !=92)=true:=by rw[bne_iff_ne];omega
      have HA:=q_ (HAT.o.go (j:=1) (v:=[c]) hk1 (by rw[HD.o];exact Ad.text_plain c34 (by omega) c92));clear c34 cb c92;go_wp2_with (at_builtin;refine wpList_append_bytes rfl (.tmp 35) (.tmp 37) rfl w.heap.size _ out rfl (hown.alloc _) ⟨wr.heap.size,0,none⟩ 1 1 [c] rfl rfl (newsU8 wr 5 [c]) (by simp;omega) (by have:=hbel.size;simp;omega) ?_;intro o4 w4 hown4 hb4);have Hb4:=q_ (show Below w.heap.size w w4 from(hbel.alloc hbel.size _).trans hb4);clear hb4 hbel hown hi1;go_wp2_with fail;go_roundw
      case rel=>exact⟨k+1,out++[c],by go_num,by omega,by omega,by simp;omega,HA.o,hown4,Hb4.o⟩
      case measure=>simp[intOf];omega
  ·obtain rfl:k=s.size:=by omega
   obtain⟨e1,e2⟩:=HAT.o.none (by rw[List.drop_eq_nil_of_le (Nat.le_of_eq HLen.o)];exact Ad.text_nil);rw[<-HV.o] at e1;rw[<-HN.o] at e2;have E1:=q_ e1;have E2:=q_ e2;clear e1 e2;go_wp2_with fail;go_ret2;rw[E1.o,E2.o];exact⟨rfl,hbel⟩
end
section
open Go.RowKit
theorem slice_arr20(g f:Nat)(hf:f<20)(W:World):(Instr.sliceAt 271 (.pointer (some ⟨g,0,none⟩)) (some (.int .i64 f)) none none).run Tryz.prog W= .ok (.slice (some ⟨g,f,none⟩) (20-f) (20-f)) W:=by
 have hal:Tryz.prog.arrayLen 271=20:=by kernel_rfl
 have hel:Tryz.prog.elem 271=5:=by kernel_rfl
 have h:=run_sliceAt_array_l (P:=Tryz.prog) W 271 ⟨g,0,none⟩ (by rw[hal,hel];exact Tryz.underlying271) .i64 (f:Int) (by omega) (by rw[hal];omega);rw[h,hel,hal];have hs:(sizeOf 5).run Tryz.prog W= .ok 1 W:=by have:=Tryz.sizeOf5;simp[go_sem]
 rw[hs];simp only[Result.andThen_ok,slicedAt,Int.toNat_natCast,Nat.mul_one];rw[if_neg (by omega)];simp[Addr.add];exact fun h=>h.symm
theorem put48(m:Nat):((48:Int)+(m:Int)%10)=(((UInt8.ofNat (48+m%10)).toNat:Nat):Int):=by
 have h:48+m%10<256:=by omega
 simp[Nat.mod_eq_of_lt h]
theorem set_digit(f:Nat)(acc:List UInt8)(b:UInt8)(hf:1<=f):(List.replicate f (0:UInt8)++acc).set (f-1) b=List.replicate (f-1) 0++b::acc:=by
 obtain⟨k,rfl⟩:∃k,f=k+1:=⟨f-1,by omega⟩
 rw[List.replicate_succ',List.append_assoc];simp only[Nat.add_sub_cancel];rw[List.set_append_right _ _ (by simp)];simp
theorem digits_any(v:Int)(w:World)(ha: -9223372036854775808<=v)(ha':v<=9223372036854775807):
 Calls Tryz.prog 162 #[.int .i64 v] w fun e w'=>e= .returned (.string ⟨(P.digits v).toArray⟩)/\Below w.heap.size w w':=by
 have Hblk:=q_ (Blk.new w 271 (cellsU8 (List.replicate 20 0)));by_cases hneg:v<0
 ·obtain⟨n,hn⟩:∃n:Nat,v= -(n:Int):=⟨v.natAbs,by omega⟩
  subst hn;have hd0:decide (0<n)=true:=by simp;omega
  have hres:P.digits (-(n:Int))=45::P.digitsN 20 n:=by simp[P.digits,(by omega:0<n)]
  have hN:=P.digitsN_length 20 n 19 (by omega) (by omega);rw[hres];clear hres;go_enter Tryz.func162,Tryz.ntmps162;go_wp2;rw[show IntKind.u64.wrap (-IntKind.u64.wrap (-(n:Int)))=(n:Int) from by simp only[IntKind.wrap_u64];omega];go_loopw [4,5] (fun x y wr=>∃f m:Nat,∃acc:List UInt8,1<=f/\f<=20/\m<10^f/\acc.length=20-f/\y= .int .i64 f/\x= .int .u64 m/\m<=9223372036854775808/\P.digitsN f m++acc=P.digitsN 20 n/\Blk wr w.heap.size 271 (cellsU8 (List.replicate f 0++acc))/\Below w.heap.size w wr) (fun _ y _=>(intOf y).toNat)
  case atStart=>exact⟨20,n,[],by omega,by omega,by omega,rfl,rfl,rfl,by omega,by simp,by simpa[cellsU8] using Hblk.o,(Below.refl _ _).alloc (n_) _⟩
  case round=>
   obtain⟨f,m,acc,hf1,hf2,hm,hacc,rfl,rfl,hm2,hdig,hblk,hbel⟩:=hrel;obtain⟨f',rfl⟩:∃k,f=k+1:=⟨f-1,by omega⟩
   have hcell:=hblk.cell f';have hfr:=hblk.frozen f';obtain⟨u,hu⟩:∃u,(cellsU8 (List.replicate (f'+1) 0++acc))[f']? =some u:=⟨_,Array.getElem?_eq_getElem (by simp[cellsU8_size];omega)⟩
   rw[hu] at hcell;clear hu;have hs:=hblk.set_ f' (.int .u8 (((UInt8.ofNat (48+m%10)).toNat:Nat):Int));have he:=set_digit (f'+1) acc (UInt8.ofNat (48+m%10)) hf1;rw[Nat.add_sub_cancel] at he;rw[cellsU8_set,he] at hs;have hv:=put48 m;rw[<-hv] at hs;have Hs:=q_ hs;clear hs he hv;have hbel2:=q_ (hbel.setCell (p:=⟨w.heap.size,f',none⟩) (n_) (.int .u8 (48+(m:Int)%10)));by_cases hm0:m/10=0
   ·have hfin:P.digitsN 20 n=UInt8.ofNat (48+m%10)::acc:=by rw[<-hdig];simp[P.digitsN,hm0]
    have ht:((m:Int)/10==0)=true:=by simp;omega
    have Hfin:=q_ hfin;have hf3:1<=f':=by rw[hfin] at hN;simp at hN;omega
    have Hacc:=q_ hacc;have Hdig:=q_ hdig;have Hm0:=q_ hm0;clear hdig hfin hm0 hacc hm;have hcell2:=hblk.cell (f'-1);have hfr2:=hblk.frozen (f'-1);obtain⟨u2,hu2⟩:∃u,(cellsU8 (List.replicate (f'+1) 0++acc))[f'-1]? =some u:=⟨_,Array.getElem?_eq_getElem (by have:=Hacc.o;simp[cellsU8_size];omega)⟩
    rw[hu2] at hcell2;clear hu2 hblk;have hblk:=Hs.o;have Hs2:=hblk.set_ (f'-1) (.int .u8 (((45:UInt8).toNat:Nat):Int));rw[cellsU8_set,set_digit f' _ _ hf3] at Hs2;have hsl:=slice_arr20 w.heap.size (f'-1) (by omega);rw[show((f'-1:Nat):Int)=(f':Int)-1 from by omega] at hsl;have hst:=bytes_string_off (off:=f'-1) (n:=20-(f'-1)) (c:=20-(f'-1)) Hs2 (by have:=Hacc.o;simp;omega)
    rw[show((List.replicate (f'-1) (0:UInt8)++45::UInt8.ofNat (48+m%10)::acc).drop (f'-1)).take (20-(f'-1))=45::P.digitsN 20 n from by
     rw[Hfin.o,List.drop_left' (by simp),List.take_of_length_le (by have:=Hacc.o;simp;omega)]] at hst
    have hst:(convert 82 9 (Value.slice (some ⟨w.heap.size,f'-1,none⟩) (20-(f'-1)) (20-(f'-1)))).run Tryz.prog ((wr.setCell ⟨w.heap.size,f',none⟩ (.int .u8 (48+(m:Int)%10))).setCell ⟨w.heap.size,f'-1,none⟩ (.int .u8 45))= .ok (.string ⟨(45::P.digitsN 20 n).toArray⟩) ((wr.setCell ⟨w.heap.size,f',none⟩ (.int .u8 (48+(m:Int)%10))).setCell ⟨w.heap.size,f'-1,none⟩ (.int .u8 45)):=hst;clear hblk;go_wp2;go_ret;exact⟨rfl,hbel2.o.setCell (n_) _⟩
   ·have hstep:P.digitsN f' (m/10)++UInt8.ofNat (48+m%10)::acc=P.digitsN 20 n:=by rw[<-hdig];simp[P.digitsN,hm0]
    have ht:((m:Int)/10==0)=false:=by simp;omega
    have hlt:m/10<10^f':=by rw[Nat.div_lt_iff_lt_mul (by omega),<-Nat.pow_succ];exact hm
    have hf3:1<=f':=by
     rcases Nat.eq_zero_or_pos f' with h|h
     ·subst h;omega
     ·exact h
    have Hst:=q_ hstep;have Hlt:=q_ hlt;have Hacc:=q_ hacc;clear hstep hdig hm hlt hm0 hacc hblk;go_wp2;go_roundw
    case rel=>exact⟨f',m/10,_,hf3,by omega,Hlt.o,by have:=Hacc.o;simp;omega,by go_num,by go_num,by omega,Hst.o,Hs.o,hbel2.o⟩
    case measure=>simp[intOf]
 ·obtain⟨n,rfl⟩:=Int.eq_ofNat_of_zero_le (by omega:0<=v)
  have hres:P.digits (n:Int)=P.digitsN 20 n:=by simp[P.digits]
  have hN:=P.digitsN_length 20 n 19 (by omega) (by omega);rw[hres];clear hres;go_enter Tryz.func162,Tryz.ntmps162;go_wp2;go_loopw [4,5] (fun x y wr=>∃f m:Nat,∃acc:List UInt8,1<=f/\f<=20/\m<10^f/\acc.length=20-f/\y= .int .i64 f/\x= .int .u64 m/\m<=9223372036854775808/\P.digitsN f m++acc=P.digitsN 20 n/\Blk wr w.heap.size 271 (cellsU8 (List.replicate f 0++acc))/\Below w.heap.size w wr) (fun _ y _=>(intOf y).toNat)
  case atStart=>exact⟨20,n,[],by omega,by omega,by omega,rfl,rfl,rfl,by omega,by simp,by simpa[cellsU8] using Hblk.o,(Below.refl _ _).alloc (n_) _⟩
  case round=>
   obtain⟨f,m,acc,hf1,hf2,hm,hacc,rfl,rfl,hm2,hdig,hblk,hbel⟩:=hrel;obtain⟨f',rfl⟩:∃k,f=k+1:=⟨f-1,by omega⟩
   have hcell:=hblk.cell f';have hfr:=hblk.frozen f';obtain⟨u,hu⟩:∃u,(cellsU8 (List.replicate (f'+1) 0++acc))[f']? =some u:=⟨_,Array.getElem?_eq_getElem (by simp[cellsU8_size];omega)⟩
   rw[hu] at hcell;clear hu;have hs:=hblk.set_ f' (.int .u8 (((UInt8.ofNat (48+m%10)).toNat:Nat):Int));have he:=set_digit (f'+1) acc (UInt8.ofNat (48+m%10)) hf1;rw[Nat.add_sub_cancel] at he;rw[cellsU8_set,he] at hs;have hv:=put48 m;rw[<-hv] at hs;have Hs:=q_ hs;clear hs he hv;have hbel2:=q_ (hbel.setCell (p:=⟨w.heap.size,f',none⟩) (n_) (.int .u8 (48+(m:Int)%10)));by_cases hm0:m/10=0
   ·have hfin:P.digitsN 20 n=UInt8.ofNat (48+m%10)::acc:=by rw[<-hdig];simp[P.digitsN,hm0]
    have ht:((m:Int)/10==0)=true:=by simp;omega
    have Hfin:=q_ hfin;have hf3:1<=f':=by rw[hfin] at hN;simp at hN;omega
    have Hacc:=q_ hacc;have Hdig:=q_ hdig;have Hm0:=q_ hm0;clear hdig hfin hm0 hacc hm;have hsl:=slice_arr20 w.heap.size f' (by omega);have hst:=bytes_string_off (off:=f') (n:=20-f') (c:=20-f') Hs.o (by have:=Hacc.o;simp;omega)
    rw[show((List.replicate f' (0:UInt8)++UInt8.ofNat (48+m%10)::acc).drop f').take (20-f')=P.digitsN 20 n from by
     rw[Hfin.o,List.drop_left' (by simp),List.take_of_length_le (by have:=Hacc.o;simp;omega)]] at hst
    go_wp2;go_ret;exact⟨rfl,hbel2.o⟩
   ·have hstep:P.digitsN f' (m/10)++UInt8.ofNat (48+m%10)::acc=P.digitsN 20 n:=by rw[<-hdig];simp[P.digitsN,hm0]
    have ht:((m:Int)/10==0)=false:=by simp;omega
    have hlt:m/10<10^f':=by rw[Nat.div_lt_iff_lt_mul (by omega),<-Nat.pow_succ];exact hm
    have hf3:1<=f':=by
     rcases Nat.eq_zero_or_pos f' with h|h
     ·subst h;omega
     ·exact h
    have Hst:=q_ hstep;have Hlt:=q_ hlt;have Hacc:=q_ hacc;clear hstep hdig hm hlt hm0 hacc hblk;go_wp2;go_roundw
    case rel=>exact⟨f',m/10,_,hf3,by omega,Hlt.o,by have:=Hacc.o;simp;omega,by go_num,by go_num,by omega,Hst.o,Hs.o,hbel2.o⟩
    case measure=>simp[intOf]
end
end Go.Proofs.YtnocnbklhikmnaaGreatDoor
