/- Part 23 of the proof. -/
import Derived.Test.YtnocnbklhikmnaaGreatDoorW4
import Derived.Test.YtnocnbklhikmnaaGreatDoorW5
set_option linter.unusedVariables false
set_option maxRecDepth 1000000
set_option maxHeartbeats 16000000
namespace Go.Proofs.YtnocnbklhikmnaaGreatDoor
variable{b et fid:Nat}{sh:Value->Prop}{st:Nat}{z:Value}
section
open Go.RowKit Go.BigFrame
theorem default_any(w:World):Calls Tryz.prog 29 #[] w fun e w'=>e= .returned (.agg #[.int .u8 124,.int .u8 94,.int .u8 126,.int .u8 92,.int .u8 38])/\Below w.heap.size w w':=by
 go_enter Tryz.func29,Tryz.ntmps29;go_wp2;exact bodyPost_ret (v:= .agg #[.int .u8 124,.int .u8 94,.int .u8 126,.int .u8 92,.int .u8 38]) (by simp[results,Tryz.results29,go_sem]) rfl ⟨rfl,(Below.refl _ _).alloc (n_) _⟩
theorem signs_any(f c r e s:UInt8)(w:World):Calls Tryz.prog 30 #[.agg #[.int .u8 (f.toNat:Int),.int .u8 (c.toNat:Int),.int .u8 (r.toNat:Int),.int .u8 (e.toNat:Int),.int .u8 (s.toNat:Int)]] w fun x w'=>x= .returned (.agg #[.int .u8 (f.toNat:Int),.int .u8 (c.toNat:Int),.int .u8 (r.toNat:Int),.int .u8 (e.toNat:Int),.int .u8 (s.toNat:Int)])/\Below w.heap.size w w':=by
 go_enter Tryz.func30,Tryz.ntmps30;go_wp2;exact bodyPost_ret (v:= .agg #[.int .u8 (f.toNat:Int),.int .u8 (c.toNat:Int),.int .u8 (r.toNat:Int),.int .u8 (e.toNat:Int),.int .u8 (s.toNat:Int)]) (by simp[results,Tryz.results30,go_sem]) rfl ⟨rfl,((Below.refl _ _).alloc (n_) _).alloc (by simp) _⟩
theorem may_any(c:UInt8)(w:World):Calls Tryz.prog 31 #[.int .u8 (c.toNat:Int)] w fun e w'=>e= .returned (.bool (P.may c))/\w=w':=by
 have hb:=c.toNat_lt;have hn:P.may c=decide (33<=c.toNat/\c.toNat<=126/\¬(97<=c.toNat/\c.toNat<=122)/\¬(65<=c.toNat/\c.toNat<=90)/\¬(48<=c.toNat/\c.toNat<=57)):=rfl;generalize P.may c=m at*;generalize c.toNat=n at*;have HN:=q_ hn;clear hn;have fin:∀v:Bool,m=v->Calls Tryz.prog 31 #[.int .u8 (n:Int)] w (fun e w'=>e= .returned (.bool v)/\w=w')->Calls Tryz.prog 31 #[.int .u8 (n:Int)] w (fun e w'=>e= .returned (.bool m)/\w=w'):=fun v hv h=>hv▸h;rcases(by omega:n<33\/(33<=n/\n<48)\/(48<=n/\n<=57)\/(57<n/\n<65)\/(65<=n/\n<=90)\/(90<n/\n<97)\/(97<=n/\n<=122)\/(122<n/\n<=126)\/126<n) with h|⟨h,h'⟩|⟨h,h'⟩|⟨h,h'⟩|⟨h,h'⟩|⟨h,h'⟩|⟨h,h'⟩|⟨h,h'⟩|h
 ·refine fin false (by rw[HN.o];exact decide_eq_false (by omega)) ?_
  clear fin;go_enter Tryz.func31,Tryz.ntmps31;go_wp2
  all_goals (go_ret;exact⟨rfl,rfl⟩)
 ·refine fin true (by rw[HN.o];exact decide_eq_true (by omega)) ?_
  clear fin;go_enter Tryz.func31,Tryz.ntmps31;go_wp2
  all_goals (go_ret;exact⟨rfl,rfl⟩)
 ·refine fin false (by rw[HN.o];exact decide_eq_false (by omega)) ?_
  clear fin;go_enter Tryz.func31,Tryz.ntmps31;go_wp2
  all_goals (go_ret;exact⟨rfl,rfl⟩)
 ·refine fin true (by rw[HN.o];exact decide_eq_true (by omega)) ?_
  clear fin;go_enter Tryz.func31,Tryz.ntmps31;go_wp2
  all_goals (go_ret;exact⟨rfl,rfl⟩)
 ·refine fin false (by rw[HN.o];exact decide_eq_false (by omega)) ?_
  clear fin;go_enter Tryz.func31,Tryz.ntmps31;go_wp2
  all_goals (go_ret;exact⟨rfl,rfl⟩)
 ·refine fin true (by rw[HN.o];exact decide_eq_true (by omega)) ?_
  clear fin;go_enter Tryz.func31,Tryz.ntmps31;go_wp2
  all_goals (go_ret;exact⟨rfl,rfl⟩)
 ·refine fin false (by rw[HN.o];exact decide_eq_false (by omega)) ?_
  clear fin;go_enter Tryz.func31,Tryz.ntmps31;go_wp2
  all_goals (go_ret;exact⟨rfl,rfl⟩)
 ·refine fin true (by rw[HN.o];exact decide_eq_true (by omega)) ?_
  clear fin;go_enter Tryz.func31,Tryz.ntmps31;go_wp2
  all_goals (go_ret;exact⟨rfl,rfl⟩)
 ·refine fin false (by rw[HN.o];exact decide_eq_false (by omega)) ?_
  clear fin;go_enter Tryz.func31,Tryz.ntmps31;go_wp2
  all_goals (go_ret;exact⟨rfl,rfl⟩)
theorem small5{p:Nat->Prop}(h:p 0/\p 1/\p 2/\p 3/\p 4)(n:Nat)(hn:n<5):p n:=by
 obtain⟨h0,h1,h2,h3,h4⟩:=h;rcases(by omega:n=0\/n=1\/n=2\/n=3\/n=4) with rfl|rfl|rfl|rfl|rfl<;>assumption
theorem index5(f c r e s:UInt8)(W:World)(n:Nat)(hn:n<5):(Instr.index 79 (.agg #[.int .u8 (f.toNat:Int),.int .u8 (c.toNat:Int),.int .u8 (r.toNat:Int),.int .u8 (e.toNat:Int),.int .u8 (s.toNat:Int)]) (.int .i64 (n:Int))).run Tryz.prog W= .ok (.int .u8 ((([f,c,r,e,s].getD n 0).toNat:Nat):Int)) W:=by
 refine small5 (p:=fun n=>(Instr.index 79 (.agg #[.int .u8 (f.toNat:Int),.int .u8 (c.toNat:Int),.int .u8 (r.toNat:Int),.int .u8 (e.toNat:Int),.int .u8 (s.toNat:Int)]) (.int .i64 (n:Int))).run Tryz.prog W= .ok (.int .u8 ((([f,c,r,e,s].getD n 0).toNat:Nat):Int)) W) ?_ n hn;exact⟨by kernel_rfl,by kernel_rfl,by kernel_rfl,by kernel_rfl,by kernel_rfl⟩
theorem delims_held:Tryz.prog.stoodInHeld 23=false:=by kernel_rfl
theorem delims_fields:∃g0 g1 g2 g3 g4:Field,Tryz.prog.underlying 23=some (.struct #[g0,g1,g2,g3,g4])/\(g0.type=5/\g0.offset=0/\(g0.name≠ "_"))/\(g1.type=5/\g1.offset=1/\(g1.name≠ "_"))/\(g2.type=5/\g2.offset=2/\(g2.name≠ "_"))/\(g3.type=5/\g3.offset=3/\(g3.name≠ "_"))/\(g4.type=5/\g4.offset=4/\(g4.name≠ "_")):=
 ⟨_,_,_,_,_,Tryz.underlying23,⟨rfl,rfl,by decide⟩,⟨rfl,rfl,by decide⟩,⟨rfl,rfl,by decide⟩,⟨rfl,rfl,by decide⟩,⟨rfl,rfl,by decide⟩⟩
theorem eql_delims(f c r e s f' c' r' e' s':UInt8)(W:World):
 (binOp .eql 23 (.agg #[.int .u8 (f.toNat:Int),.int .u8 (c.toNat:Int),.int .u8 (r.toNat:Int),.int .u8 (e.toNat:Int),.int .u8 (s.toNat:Int)]) (.agg #[.int .u8 (f'.toNat:Int),.int .u8 (c'.toNat:Int),.int .u8 (r'.toNat:Int),.int .u8 (e'.toNat:Int),.int .u8 (s'.toNat:Int)])).run Tryz.prog W= .ok (.bool (decide ([f,c,r,e,s]=[f',c',r',e',s']))) W:=by
 obtain⟨g0,g1,g2,g3,g4,hu,⟨t0,o0,n0⟩,⟨t1,o1,n1⟩,⟨t2,o2,n2⟩,⟨t3,o3,n3⟩,⟨t4,o4,n4⟩⟩:=delims_fields;have hf:Tryz.prog.fieldsOf 23=#[g0,g1,g2,g3,g4]:=by simp[Program.fieldsOf,hu]
 rw[run_eql_struct,run_equalIn_struct W 9999 _ _ _ (by rw[hu,hf]) delims_held,hf]
 have u:∀a b:UInt8,(((a.toNat:Nat):Int)==((b.toNat:Nat):Int))=decide (a=b):=fun a b=>by
  rw[Bool.eq_iff_iff,beq_iff_eq,decide_eq_true_iff];exact⟨fun h=>UInt8.toNat_inj.1 (by omega),fun h=>by rw[h]⟩
 simp[Op.eqFields,n0,n1,n2,n3,n4,t0,t1,t2,t3,t4,o0,o1,o2,o3,o4,go_sem,u];by_cases h0:f=f'<;>by_cases h1:c=c'<;>by_cases h2:r=r'<;>by_cases h3:e=e'<;>by_cases h4:s=s'<;>simp[h0,h1,h2,h3,h4]
theorem slice5(g k:Nat)(hk:k<=5)(W:World):(Instr.sliceAt 79 (.pointer (some ⟨g,0,none⟩)) none (some (.int .i64 (k:Int))) none).run Tryz.prog W= .ok (.slice (some ⟨g,0,none⟩) k 5) W:=by
 have hal:Tryz.prog.arrayLen 79=5:=by kernel_rfl
 have hel:Tryz.prog.elem 79=5:=by kernel_rfl
 have h:=run_sliceAt_array_h (P:=Tryz.prog) W 79 ⟨g,0,none⟩ (by rw[hal,hel];exact Tryz.underlying79) .i64 (k:Int) (by omega) (by rw[hal];omega);rw[h,hel,hal];have hs:(sizeOf 5).run Tryz.prog W= .ok 1 W:=by have:=Tryz.sizeOf5;simp[go_sem]
 rw[hs];simp[slicedAt,Addr.add]
theorem cells5(f c r e s:UInt8)(W:World)(t:TypeId)(j:Nat)(hj:j<5):(W.alloc (.cells #[.int .u8 (f.toNat:Int),.int .u8 (c.toNat:Int),.int .u8 (r.toNat:Int),.int .u8 (e.toNat:Int),.int .u8 (s.toNat:Int)] t)).cell? ⟨W.heap.size,j,none⟩=some (.int .u8 ((([f,c,r,e,s].getD j 0).toNat:Nat):Int)):=by
 rw[(Blk.new W _ _).cell];refine small5 (p:=fun j=>#[Value.int .u8 (f.toNat:Int),.int .u8 (c.toNat:Int),.int .u8 (r.toNat:Int),.int .u8 (e.toNat:Int),.int .u8 (s.toNat:Int)][j]? =some (.int .u8 ((([f,c,r,e,s].getD j 0).toNat:Nat):Int))) ?_ j hj;exact⟨rfl,rfl,rfl,rfl,rfl⟩
theorem valid_any(f c r e s:UInt8)(w:World):Calls Tryz.prog 10 #[.agg #[.int .u8 (f.toNat:Int),.int .u8 (c.toNat:Int),.int .u8 (r.toNat:Int),.int .u8 (e.toNat:Int),.int .u8 (s.toNat:Int)]] w fun x w'=>x= .returned (.bool (P.valid [f,c,r,e,s]))/\Below w.heap.size w w':=by
 have cell:∀x:Ext (w.alloc (.cells #[.int .u8 (f.toNat:Int),.int .u8 (c.toNat:Int),.int .u8 (r.toNat:Int),.int .u8 (e.toNat:Int),.int .u8 (s.toNat:Int)] 23)),∀i,x.wd.cell? ⟨w.heap.size,i,none⟩=#[Value.int .u8 (f.toNat:Int),.int .u8 (c.toNat:Int),.int .u8 (r.toNat:Int),.int .u8 (e.toNat:Int),.int .u8 (s.toNat:Int)][i]? :=fun x i=>by
  rw[x.cell (by simp),(Blk.new w _ _).cell]
 have he:=fun W=>eql_delims f c r e s 124 94 126 92 38 W;have hB:Below w.heap.size w (w.alloc (.cells #[.int .u8 (f.toNat:Int),.int .u8 (c.toNat:Int),.int .u8 (r.toNat:Int),.int .u8 (e.toNat:Int),.int .u8 (s.toNat:Int)] 23)):=(Below.refl _ _).alloc (n_) _;by_cases hD:[f,c,r,e,s]=P.dflt
 ·have hv:P.valid [f,c,r,e,s]=true:=by rw[hD];exact P.valid_dflt
  rw[hv]
  have he2:∀W,(binOp .eql 23 (.agg #[.int .u8 (f.toNat:Int),.int .u8 (c.toNat:Int),.int .u8 (r.toNat:Int),.int .u8 (e.toNat:Int),.int .u8 (s.toNat:Int)]) (.agg #[.int .u8 124,.int .u8 94,.int .u8 126,.int .u8 92,.int .u8 38])).run Tryz.prog W= .ok (.bool true) W:=fun W=>by
   have h:=he W;rw[decide_eq_true (p:=[f,c,r,e,s]=[124,94,126,92,38]) hD] at h;exact h
  clear he hD hv;have HB:=q_ hB;clear hB;go_enter Tryz.func10,Tryz.ntmps10;go_wp2_with fail;refine wp_region_ext (by kernel_rfl) (by kernel_rfl) ?_
  repeat(first|go_big_quiet_step ((go_at_call 29;exact Ext.calls _ (default_any _)))|quiet_step ((go_at_call 29;exact Ext.calls _ (default_any _))))
  refine wpQuiet_nil ?_;intro w2 hb2;go_wp2;go_ret;exact⟨rfl,HB.o.trans (hb2.mono HB.o.size)⟩
 ·have he2:∀W,(binOp .eql 23 (.agg #[.int .u8 (f.toNat:Int),.int .u8 (c.toNat:Int),.int .u8 (r.toNat:Int),.int .u8 (e.toNat:Int),.int .u8 (s.toNat:Int)]) (.agg #[.int .u8 124,.int .u8 94,.int .u8 126,.int .u8 92,.int .u8 38])).run Tryz.prog W= .ok (.bool false) W:=fun W=>by
   have h:=he W;rw[decide_eq_false (p:=[f,c,r,e,s]=[124,94,126,92,38]) hD] at h;exact h
  clear he hD;have HB:=q_ hB;clear hB;go_enter Tryz.func10,Tryz.ntmps10;go_wp2_with fail;refine wp_region_ext (by kernel_rfl) (by kernel_rfl) ?_
  repeat(first|go_big_quiet_step ((go_at_call 29;exact Ext.calls _ (default_any _)))|quiet_step ((go_at_call 29;exact Ext.calls _ (default_any _))))
  refine wpQuiet_nil ?_;intro w2 hb2;have cell2:=fun i=>cell ⟨w2,hb2⟩ i;simp only at cell2;have HB2:=q_ (HB.o.trans (hb2.mono HB.o.size));clear hb2 cell he2;go_wp2_with (go_at_call 30;refine(signs_any f c r e s _).mono ?_;rintro x w3 ⟨rfl,hb3⟩);have HB3:=q_ (show Below w.heap.size w (w3.alloc (.cells #[.int .u8 (f.toNat:Int),.int .u8 (c.toNat:Int),.int .u8 (r.toNat:Int),.int .u8 (e.toNat:Int),.int .u8 (s.toNat:Int)] 79)) from(HB2.o.trans (hb3.mono HB2.o.size)).alloc (Nat.le_trans HB2.o.size hb3.size) _);have HC:=q_ (fun j hj=>cells5 f c r e s w3 79 j hj);have HI:=q_ (fun W n hn=>index5 f c r e s W n hn);clear cell2 hb3;generalize w3.alloc (.cells #[.int .u8 (f.toNat:Int),.int .u8 (c.toNat:Int),.int .u8 (r.toNat:Int),.int .u8 (e.toNat:Int),.int .u8 (s.toNat:Int)] 79)=W at*
  go_loop [14] (fun i=>∃k:Nat,k<=5/\i= .int .i64 k/\P.okUp [f,c,r,e,s] k) (fun i=>5-(intOf i).toNat)
  case atStart=>exact⟨0,by omega,rfl,fun a ha=>by omega⟩
  case round=>
   obtain⟨k,hk,rfl,hok⟩:=hrel;have Hok:=q_ hok;clear hok;by_cases hlt:k<5
   ·have hi:=fun W=>HI.o W k hlt
    have Bm:=q_ (fun h=>P.bad_may (L:=[f,c,r,e,s]) hlt h);have Bt:=q_ (fun b hb h=>P.bad_twice (L:=[f,c,r,e,s]) (b:=b) hlt hb h);have Sc:=q_ (fun hm hd=>P.okUp_succ (i:=k) Hok.o hm hd);have HC2:=HC.o;generalize hL:[f,c,r,e,s]=L at*;have HC:=q_ HC2;have HL:=q_ hL;clear HC2 HI hL;generalize hx:L.getD k 0=x at*;clear hx;have Hmay:=q_ (fun W=>may_any x W);by_cases hmay:P.may x=true
    ·have hsl:=slice5 w3.heap.size k hk
     have hmx:=x.toNat_lt;go_wp2_with (go_at_call 31;refine(Hmay.o _).mono ?_;rintro y w' ⟨rfl,rfl⟩)
     go_loop [24] (fun i=>∃j:Nat,j<=k/\i= .int .i64 j/\∀b,b<j->L.getD b 0≠x) (fun i=>k-(intOf i).toNat)
     case atStart=>exact⟨0,by omega,rfl,fun b hb=>by omega⟩
     case round=>
      obtain⟨j,hj,rfl,hne⟩:=hrel;have Hne:=q_ hne;clear hne;by_cases hjk:j<k
      ·have hcj:=HC.o j (by omega)
       have hy:=(L.getD j 0).toNat_lt;have Bj:=q_ (fun h=>Bt.o j hjk h)
       have Nj:=q_ (show L.getD j 0≠x->∀b,b<j+1->L.getD b 0≠x from fun h b hb=>by
        rcases Nat.lt_or_ge b j with h1|h1
        ·exact Hne.o b h1
        ·have:b=j:=by omega
         subst this;exact h)
       generalize L.getD j 0=y at*;by_cases hxy:y=x
       ·have HV:=q_ (Bj.o hxy)
        subst hxy;have ht:((y.toNat:Int)==(y.toNat:Int))=true:=by simp
        go_wp2;go_ret;rw[HL.o,HV.o];exact⟨rfl,HB3.o⟩
       ·have ht:((y.toNat:Int)==(x.toNat:Int))=false:=beq_eq_false_iff_ne.2 (fun h=>hxy (UInt8.toNat_inj.1 (by omega)))
        have Nj2:=q_ (Nj.o hxy);clear hxy;go_wp2
        go_round
        case rel=>exact⟨j+1,by omega,by go_num,Nj2.o⟩
        case measure=>simp[intOf];omega
      ·have hjk2:j=k:=by omega
       have Hok2:=q_ (Sc.o hmay (hjk2▸Hne.o));clear hjk2;go_wp2
       go_round
       case rel=>exact⟨k+1,by omega,by go_num,Hok2.o⟩
       case measure=>simp[intOf];omega
    ·have hmay2:P.may x=false:=by simpa using hmay
     have HV:=q_ (Bm.o hmay2);clear hmay;go_wp2_with (go_at_call 31;refine(Hmay.o _).mono ?_;rintro y w' ⟨rfl,rfl⟩);go_ret;rw[HL.o,HV.o];exact⟨rfl,HB3.o⟩
   ·have hk5:k=5:=by omega
    have HV:=q_ (show P.valid [f,c,r,e,s]=true from decide_eq_true (hk5▸Hok.o));clear hk5;go_wp2;go_ret;rw[HV.o];exact⟨rfl,HB3.o⟩
end
section
open Go.RowKit
def shStr(u:Value):Prop:=∃s,u= .string s
def shSl(u:Value):Prop:=∃A n c,u= .slice A n c
def TrimI(fid et st b:Nat)(z:Value)(sh:Value->Prop):Prop:=(fid=187/\et=9/\st=35/\b=16/\z=(.string ByteArray.empty)/\sh=shStr)\/(fid=191/\et=35/\st=47/\b=24/\z=(.slice none 0 0)/\sh=shSl)\/(fid=193/\et=47/\st=46/\b=24/\z=(.slice none 0 0)/\sh=shSl)\/(fid=112/\et=46/\st=43/\b=24/\z=(.slice none 0 0)/\sh=shSl)
theorem trimI1:TrimI 187 9 35 16 (.string ByteArray.empty) shStr:= .inl ⟨rfl,rfl,rfl,rfl,rfl,rfl⟩
theorem trimI2:TrimI 191 35 47 24 (.slice none 0 0) shSl:= .inr (.inl ⟨rfl,rfl,rfl,rfl,rfl,rfl⟩)
theorem trimI3:TrimI 193 47 46 24 (.slice none 0 0) shSl:= .inr (.inr (.inl ⟨rfl,rfl,rfl,rfl,rfl,rfl⟩))
theorem trimI4:TrimI 112 46 43 24 (.slice none 0 0) shSl:= .inr (.inr (.inr ⟨rfl,rfl,rfl,rfl,rfl,rfl⟩))
theorem trim_info(h:TrimI fid et st b z sh):(Tryz.prog.info? et).map (fun i=>(i.zero,i.size,i.bytes))=some (some z,1,b):=by
 rcases h with⟨rfl,rfl,rfl,rfl,rfl,rfl⟩|⟨rfl,rfl,rfl,rfl,rfl,rfl⟩|⟨rfl,rfl,rfl,rfl,rfl,rfl⟩|⟨rfl,rfl,rfl,rfl,rfl,rfl⟩<;>kernel_rfl
theorem trim_under(h:TrimI fid et st b z sh):Tryz.prog.underlying st=some (.slice et):=by
 rcases h with⟨rfl,rfl,rfl,rfl,rfl,rfl⟩|⟨rfl,rfl,rfl,rfl,rfl,rfl⟩|⟨rfl,rfl,rfl,rfl,rfl,rfl⟩|⟨rfl,rfl,rfl,rfl,rfl,rfl⟩<;>kernel_rfl
theorem trim_any(hI:TrimI fid et st b z sh){α β:Type}(E:Enc α)(F:Enc β)(hE:E.n=1)(hF:F.n=1)(hsh:∀W S u y,F.R W S [u] y->sh u)(f:α->β)(em:β->Bool)(fi fe:FuncId)(ci ce:Array Value)(A:Option Addr)(m c:Nat)(xs:List α)(S:Nat->Prop)(w:World)(h:LAt E w S A m xs)(hS:∀b,S b->b<w.heap.size)(hok:SOk A m c)(hgi:Enters Tryz.prog fi)(hge:Enters Tryz.prog fe)(hin:∀W u x,Below w.heap.size w W->E.R W S [u] x->x∈xs->Calls Tryz.prog fi (#[u]++ci) W (GivesE F W (f x)))(hem:∀W SW u y,Below w.heap.size w W->F.R W SW [u] y->Calls Tryz.prog fe (#[u]++ce) W fun e w'=>e= .returned (.bool (em y))/\Below W.heap.size W w'):
 Calls Tryz.prog fid #[.slice A m c,.func (.func fi) #[] ci,.func (.func fe) #[] ce] w (GivesE F.list w (M.trimEnd em (xs.map f))):=by
 have hlen:=h.len;have hm:=hok.le;obtain⟨it,hit,hz,hs1,hb1⟩:=info_parts (trim_info hI);have HU:=q_ (trim_under hI);obtain⟨ON,hON⟩:∃ON:World->(Nat->Prop)->Value->List β->Prop,ON=fun wr S v l=>OwnE F et wr w.heap.size S v l:=⟨_,rfl⟩
 have HO:=q_ hON;have H:=q_ h;have HS:=q_ hS;have HI:=q_ hin;have HE:=q_ hem;have HL:=q_ hlen;have GI:=q_ hgi;have GE:=q_ hge;have gi:=fun args w=>hgi args w;have ge:=fun args w=>hge args w;have Q1:=q_ hE;have SH:=q_ hsh;have Q2:=q_ hF;have J1:=q_ hit;have J2:=q_ hz;have J3:=q_ hs1;have J4:=q_ hb1;clear hsh h hS hin hem hlen hok hgi hge hE hF hit hz hs1 hb1 hON;rcases hI with⟨rfl,rfl,rfl,rfl,rfl,rfl⟩|⟨rfl,rfl,rfl,rfl,rfl,rfl⟩|⟨rfl,rfl,rfl,rfl,rfl,rfl⟩|⟨rfl,rfl,rfl,rfl,rfl,rfl⟩
 all_goals
  first|go_enter Tryz.func187,Tryz.ntmps187|go_enter Tryz.func191,Tryz.ntmps191|go_enter Tryz.func193,Tryz.ntmps193|go_enter Tryz.func112,Tryz.ntmps112
  go_wp2_with fail;go_loopw [7,12] (fun v x wr=>∃(k:Nat) (S':Nat->Prop),k<=m/\x= .int .i64 k/\ON wr S' v ((xs.take k).map f)/\(∀b,S' b->w.heap.size<=b)/\Below w.heap.size w wr) (fun _ x _=>m-(intOf x).toNat)
  case atStart=>exact⟨0,fun _=>False,by omega,rfl,by rw[HO.o];exact OwnE.nil (fun b hb=>hb.elim),(fun b hb=>hb.elim),Below.refl _ _⟩
  case round=>
   obtain⟨k,S',hk,rfl,hown,hge,hbel⟩:=hrel;rw[HO.o] at hown;have OW:=q_ hown;have SG:=q_ hge;have BW:=q_ hbel;have gi:=GI.o;have ge:=GE.o;unfold Enters at gi ge;clear hown hge hbel;by_cases hlt:k<m
   ·obtain⟨ad,x,u,rfl,hb,hx,hr,hc⟩:=(H.o.below_ BW.o HS.o).in1 Q1.o hlt
    have C:=q_ (HI.o wr u x BW.o hr (List.mem_of_getElem? hx))
    have HT:=q_ (show(xs.take (k+1)).map f=(xs.take k).map f++[f x] from by
     rw[List.take_add_one,hx];simp)
    have HLn:=q_ (show((xs.take k).map f).length<=m from by rw[List.length_map,List.length_take];omega);clear hx hr;go_wp2_with fail;refine C.o.mono ?_;rintro x w2 ⟨u2,rfl,hr2,hb2⟩
    first|obtain⟨s2,rfl⟩:=SH.o _ _ _ _ hr2|obtain⟨A2,n2,c2,rfl⟩:=SH.o _ _ _ _ hr2
    have hz2:=hb2.size;have O2:=q_ (OwnE.wide (OW.o.below hb2) (S':=fun b=>S' b\/New wr w2 b) (fun b h=> .inl h) (fun g hg h=>h.elim (OW.o.apart g hg) (fun h=>absurd h.1 (by have:=(OW.o.own_lt hg).2;omega))) (fun b h=>h.elim (fun h=>Nat.lt_of_lt_of_le (OW.o.there b h) hz2) (fun h=>h.2)));have SG2:=q_ (show∀b,(S' b\/New wr w2 b)->w.heap.size<=b from fun b h=>h.elim (SG.o b) (fun h=>Nat.le_trans BW.o.size h.1));have R2:=q_ (Enc.wide hr2 (S':=fun b=>S' b\/New wr w2 b) (fun b h=> .inr h));have B2:=q_ (BW.o.trans (hb2.mono BW.o.size));clear hr2 hb2;generalize (xs.take k).map f=acc at*;go_wp2_with (at_builtin;refine wpList_append_E rfl (.tmp 16) (.tmp 20) _ rfl it _ _ HU.o J1.o J2.o (J3.o.trans Q2.o.symm) J4.o (by rw[Q2.o];rfl) rfl (O2.o.alloc _) ⟨w2.heap.size,0,none⟩ 1 1 [f x] rfl rfl (news_one R2.o O2.o.there) (by have:=HLn.o;omega) (by omega) (by have:=B2.o.size;simp;omega) ?_;intro o4 w4 hown4 hb4 hg4 _;have O4:=q_ hown4;have W4:=q_ ((B2.o.alloc B2.o.size _).trans hb4);clear hown4 hb4 hg4);go_roundw
    case rel=>exact⟨k+1,_,by omega,by go_num,by rw[HO.o,HT.o];exact O4.o,SG2.o,W4.o⟩
    case measure=>simp[intOf];omega
   ·have hkm:k=m:=by omega
    subst hkm;have HT:=q_ (show(xs.take k).map f=xs.map f from by rw[List.take_of_length_le (by have:=HL.o;omega)]);have O1:=q_ (HT.o▸OW.o);have HLn:=q_ (show(xs.map f).length=k from by rw[List.length_map];exact HL.o);clear hlt;go_wp2_with fail;obtain⟨wo,rfl⟩:∃wo:World,wo=wr:=⟨_,rfl⟩
    generalize xs.map f=ys at*;go_loopw [7] (fun v wx=>∃n:Nat,n<=k/\ON wx S' v (ys.take n)/\M.trimEnd em ys=M.trimEnd em (ys.take n)/\Below w.heap.size w wx) (fun v _=>lenOf v)
    case atStart=>exact⟨k,n_,by rw[HO.o,List.take_of_length_le (by rw[HLn.o];exact n_)];exact O1.o,by rw[List.take_of_length_le (by rw[HLn.o];exact n_)],BW.o⟩
    case round=>
     obtain⟨n,hn,hown,htr,hbel⟩:=hrel;rw[HO.o] at hown;have hln:(ys.take n).length=n:=by rw[List.length_take];have:=HLn.o;omega
     have B3:=q_ hbel;have TR:=q_ htr;clear hbel htr;rcases Nat.eq_zero_or_pos n with h0|h0
     ·subst h0
      have e0:=List.eq_nil_of_length_eq_zero hln;rw[e0] at hown
      obtain⟨A3,c3,rfl⟩:∃A3 c3,u7= .slice A3 0 c3:=by
       rcases hown.form with⟨e,_⟩|⟨g,cap,e,_⟩
       ·exact⟨_,_,e⟩
       ·exact⟨_,_,e⟩
      have O3:=q_ hown;have TE:=q_ (TR.o.trans (by rw[e0]));clear hown e0 hln hn;go_wp2_with fail;go_ret;rw[TE.o];exact⟨_,rfl,OwnE.reads O3.o (fun b hb=>⟨SG.o b hb,O3.o.there b hb⟩) (fun g hg=>⟨(O3.o.own_lt hg).1,(O3.o.own_lt hg).2⟩) (Nat.zero_le _),B3.o⟩
     ·obtain⟨j,rfl⟩:∃j,n=j+1:=⟨n-1,by omega⟩
      obtain⟨g,cap,y,u,hv,hy,hr,hc,hcap,hcm⟩:=hown.in1 Q2.o (k:=j) (by rw[hln];omega);rw[hln] at hv hcap;subst hv
      first|obtain⟨s2,rfl⟩:=SH.o _ _ _ _ hr|obtain⟨A2,n2,c2,rfl⟩:=SH.o _ _ _ _ hr
      have C:=q_ (HE.o wr _ _ y B3.o hr);have O3:=q_ hown;have HY:=q_ hy
      have HS3:=q_ (show ys.take (j+1)=ys.take j++[y] from by
       rw[List.take_add_one];rw[List.getElem?_take_of_lt (by omega)] at hy;rw[hy];rfl)
      have HLN:=q_ hln;clear hown hy hr hln;cases hb:em y
      ·have HB:=q_ hb
       clear hb;go_wp2_with fail;refine C.o.mono ?_;rintro x w2 ⟨rfl,hb2⟩;rw[HB.o];have TE:=q_ (show M.trimEnd em ys=ys.take (j+1) from by rw[TR.o,HS3.o,M.trimEnd_snoc,if_neg (by rw[HB.o];simp)]);have W2:=q_ (B3.o.trans (hb2.mono B3.o.size));have O4:=q_ (O3.o.below hb2);clear hb2;go_wp2;go_ret;rw[TE.o];exact⟨_,rfl,OwnE.reads O4.o (fun b hb=>⟨SG.o b hb,O4.o.there b hb⟩) (fun g hg=>⟨(O4.o.own_lt hg).1,(O4.o.own_lt hg).2⟩) (by rw[HLN.o];omega),W2.o⟩
      ·have HB:=q_ hb
       have TE:=q_ (show M.trimEnd em ys=M.trimEnd em (ys.take j) from by rw[TR.o,HS3.o,M.trimEnd_snoc,if_pos hb]);clear hb;go_wp2_with fail;refine C.o.mono ?_;rintro x w2 ⟨rfl,hb2⟩;rw[HB.o];have W2:=q_ (B3.o.trans (hb2.mono B3.o.size));have O4:=q_ ((O3.o.below hb2).take j (by omega));have HT:=q_ (show(ys.take (j+1)).take j=ys.take j from by rw[List.take_take,Nat.min_eq_left (by omega)]);clear hb2;go_wp2_with fail;go_roundw
       case rel=>exact⟨j,by omega,by rw[HO.o,<-HT.o];exact O4.o,TE.o,W2.o⟩
       case measure=>simp[lenOf]
end
end Go.Proofs.YtnocnbklhikmnaaGreatDoor
