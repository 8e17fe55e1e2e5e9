/- Part 12 of the proof. -/
import Derived.Test.YtnocnbklhikmnaaGreatDoorW6
import Derived.Laws.Append
import Derived.Room.Entries
import Derived.MapKept
import Derived.Laws.Tables
import Derived.Lib.UnsafeStr
import Derived.RangeFuncRecord
import Derived.OrdersIn
import Derived.TacticsIn
import Derived.Lib.Builder
import Derived.Laws.Externs
import Derived.Lib.SliceRun
import Derived.Laws.EntriesVeiled
import Derived.Test.YtnocnbklhikmnaaGreatDoorRows
import Derived.ProofKit
import Derived.OpenShut
import Derived.ShutString
import Derived.Below
import Derived.ChangeSame
set_option linter.unusedVariables false
set_option maxRecDepth 1000000
set_option maxHeartbeats 16000000
namespace Go.Proofs.YtnocnbklhikmnaaGreatDoor.Rk
open Go
def waitF(acc:List Nat)(o:Oper):Nat:=o.after.toList.foldl (fun s e=>if Region.binds .any e then s|||2^e.on|||acc.getD e.on 0 else s) 0
theorem waitF_bit(acc:List Nat):∀(l:List Edge) (s0 j:Nat),(l.foldl (fun s e=>if Region.binds .any e then s|||2^e.on|||acc.getD e.on 0 else s) s0).testBit j=true<->s0.testBit j=true\/∃e∈l,Region.binds .any e=true/\(e.on=j\/(acc.getD e.on 0).testBit j=true)
 |[],s0,j=>by simp
 |e::l,s0,j=>by
  rw[List.foldl_cons,waitF_bit acc l];by_cases hb:Region.binds .any e=true
  ·rw[if_pos hb]
   simp only[Nat.testBit_or,Bool.or_eq_true,Nat.testBit_two_pow,decide_eq_true_eq,List.mem_cons,exists_eq_or_imp,hb,true_and];constructor
   ·rintro(((h|h)|h)|h)
    ·exact .inl h
    ·exact .inr (.inl (.inl h))
    ·exact .inr (.inl (.inr h))
    ·exact .inr (.inr h)
   ·rintro(h|(h|h)|h)
    ·exact .inl (.inl (.inl h))
    ·exact .inl (.inl (.inr h))
    ·exact .inl (.inr h)
    ·exact .inr h
  ·rw[if_neg hb]
   simp[hb]
theorem waitsA_snoc(ops:List Oper)(o:Oper):waitsA (ops++[o])=waitsA ops++[waitF (waitsA ops) o]:=by
 unfold waitsA;rw[List.foldl_append];rfl
theorem waitsA_len(ops:List Oper):(waitsA ops).length=ops.length:=by
 have:∀(n:Nat) (ops:List Oper),ops.length=n->(waitsA ops).length=n:=by
  intro n
  induction n with
  |zero=>intro ops h;rw[List.eq_nil_of_length_eq_zero h];rfl
  |succ n ih=>
   intro ops h;have hne:ops≠[]:=by intro e;subst e;simp at h
   rw[<-List.dropLast_concat_getLast hne,waitsA_snoc];have:=ih ops.dropLast (by simp[h]);simp[this]
 exact this _ ops rfl
def W(ops:List Oper)(k:Nat):Nat:=(waitsA ops).getD k 0
theorem waits_pre(ops l:List Oper)(k:Nat)(hk:k<ops.length):(waitsA (ops++l))[k]? =(waitsA ops)[k]? :=by
 have:∀(n:Nat) (l:List Oper),l.length=n->(waitsA (ops++l))[k]? =(waitsA ops)[k]? :=by
  intro n
  induction n with
  |zero=>intro l h;rw[List.eq_nil_of_length_eq_zero h,List.append_nil]
  |succ n ih=>
   intro l h;have hne:l≠[]:=by intro e;subst e;simp at h
   rw[<-List.dropLast_concat_getLast hne,<-List.append_assoc,waitsA_snoc,List.getElem?_append_left (by rw[waitsA_len];simp;omega)];exact ih l.dropLast (by simp[h])
 exact this _ l rfl
theorem W_spec{ops:List Oper}{k:Nat}{o:Oper}(ho:ops[k]? =some o){j:Nat}:(W ops k).testBit j=true<->∃e∈o.after,Region.binds .any e=true/\(e.on=j\/(((waitsA ops).take k).getD e.on 0).testBit j=true):=by
 have hk:=(List.getElem?_eq_some_iff.1 ho).1;have hsplit:ops=ops.take (k+1)++ops.drop (k+1):=(List.take_append_drop _ _).symm;have hsnoc:ops.take (k+1)=ops.take k++[o]:=by rw[List.take_add_one,ho];rfl
 have htk:(waitsA ops).take k=waitsA (ops.take k):=by
  apply List.ext_getElem?;intro i;by_cases hi:i<k
  ·rw[List.getElem?_take_of_lt hi]
   conv=>lhs;rw[<-List.take_append_drop k ops]
   rw[waits_pre _ _ i (by simp;omega)]
  ·rw[List.getElem?_eq_none (by simp;omega),List.getElem?_eq_none (by rw[waitsA_len];simp;omega)]
 have hW:W ops k=waitF (waitsA (ops.take k)) o:=by
  unfold W;rw[List.getD_eq_getElem?_getD]
  conv=>lhs;rw[hsplit]
  rw[waits_pre _ _ k (by simp;omega),hsnoc,waitsA_snoc,List.getElem?_append_right (by rw[waitsA_len];simp;omega),waitsA_len];have:k-(ops.take k).length=0:=by simp;omega
  rw[this];rfl
 rw[hW,htk];unfold waitF;rw[waitF_bit];simp[Array.mem_toList_iff]
structure Stp where
 p:St
 v:AV
 q:St
def Stp.rc(x:Stp):Rec:=⟨x.q.log,x.p.n,x.q.n⟩
def Stp.wr(x:Stp):Bool:=x.q.log.any (·.writes)
structure Text(P:Program)(C:Callee)(Y:Yielder)(ops:List Oper)(ss:List Stp)(A:Nat->AAct)(S:Nat->St):Prop where
 len:ss.length=ops.length
 at_:∀k x o,ss[k]? =some x->ops[k]? =some o->x.p={S k with log:=[]}/\A (k+1)=(A k).put o.dst x.v/\S (k+1)={x.q with log:=x.q.log++(S k).log}/\
  ((wantedA ops o (A k)=some true/\oneVal P C Y (A k) o x.p=some (.ret x.v,x.q))\/(wantedA ops o (A k)=some false/\x.v=undefA/\x.q=x.p))
 clash:∀j k x y,j<k->ss[j]? =some x->ss[k]? =some y->(W ops k).testBit j=false->x.rc.clash y.rc=false
theorem clashes_false{w:Nat}{r:Rec}:∀{l:List Rec} {i:Nat},clashes w r l i=false->∀j x,l[j]? =some x->w.testBit (i+j)=false->x.clash r=false
 |[],i,_,j,x,hx,_=>by simp at hx
 |y::l,i,h,0,x,hx,hw=>by
  simp at hx;subst hx;unfold clashes at h;simp only[Bool.or_eq_false_iff,Bool.and_eq_false_iff,Bool.not_eq_false'] at h;rcases h.1 with h1|h1
  ·simp at hw;rw[hw] at h1;cases h1
  ·exact h1
 |y::l,i,h,j+1,x,hx,hw=>by
  unfold clashes at h;simp only[Bool.or_eq_false_iff] at h;exact clashes_false h.2 j x (by simpa using hx) (by rw[show i+1+j=i+(j+1) by omega];exact hw)
theorem clash_empty(r:Rec)(n m:Nat):r.clash ⟨[],n,m⟩=false:=by
 unfold Rec.clash;simp
section
variable {P:Program} {C:Callee} {Y:Yielder}
def TextL(P:Program)(C:Callee)(Y:Yielder)(ops l:List Oper)(ws:List Nat)(rs:List Rec)(aa:AAct)(s:St)(aa':AAct)(s':St):Prop:=
    ∃(ss:List Stp) (A:Nat->AAct) (S:Nat->St),A 0=aa/\S 0=s/\A l.length=aa'/\S l.length=s'/\ss.length=l.length/\(∀(k:Nat) (x:Stp) (o:Oper),ss[k]? =some x->l[k]? =some o->x.p={S k with log:=[]}/\A (k+1)=(A k).put o.dst x.v/\S (k+1)={x.q with log:=x.q.log++(S k).log}/\
     ((wantedA ops o (A k)=some true/\oneVal P C Y (A k) o x.p=some (.ret x.v,x.q))\/(wantedA ops o (A k)=some false/\x.v=undefA/\x.q=x.p)))/\
     ∀(k:Nat) (y:Stp),ss[k]? =some y->∃w:Nat,ws[k]? =some w/\(∀(j:Nat) (r:Rec),rs[j]? =some r->w.testBit j=false->r.clash y.rc=false)/\∀(j:Nat) (x:Stp),j<k->ss[j]? =some x->w.testBit (rs.length+j)=false->x.rc.clash y.rc=false
theorem draw_text{ops:List Oper}:∀(l:List Oper) (ws:List Nat) (rs:List Rec) (aa:AAct) (s:St) {aa':AAct} {s':St},drawOps P C Y ops l ws rs aa s= .ok aa' s'->TextL P C Y ops l ws rs aa s aa' s'
 |[],ws,rs,aa,s,aa',s',h=>by
  unfold drawOps at h;cases h;exact⟨[],fun _=>aa,fun _=>s,rfl,rfl,rfl,rfl,rfl,fun k x o hx=>by simp at hx,fun k y hy=>by simp at hy⟩
 |o::l,[],rs,aa,s,aa',s',h=>by unfold drawOps at h;cases h
 |o::l,w::ws,rs,aa,s,aa',s',h=>by
  have build:∀(x:Stp),x.p={s with log:=[]}->((wantedA ops o aa=some true/\oneVal P C Y aa o x.p=some (.ret x.v,x.q))\/(wantedA ops o aa=some false/\x.v=undefA/\x.q=x.p))->(∀j r,rs[j]? =some r->w.testBit j=false->r.clash x.rc=false)->
   drawOps P C Y ops l ws (rs++[x.rc]) (aa.put o.dst x.v) {x.q with log:=x.q.log++s.log}= .ok aa' s'->TextL P C Y ops (o::l) (w::ws) rs aa s aa' s':=fun x hxp hx hcl hrest=>by
   obtain⟨ss,A,S,h1,h2,h3,h4,h5,h6,h7⟩:=draw_text l ws _ _ _ hrest;refine⟨x::ss,fun k=>match k with|0=>aa|k+1=>A k,fun k=>match k with|0=>s|k+1=>S k,rfl,rfl,h3,h4,by simp[h5],fun k y oo hy ho=> ?_,fun k y hy=> ?_⟩
   ·cases k with
    |zero=>
     simp at hy ho;subst hy ho;exact⟨hxp,h1,h2,hx⟩
    |succ k=>exact h6 k y oo (by simpa using hy) (by simpa using ho)
   ·cases k with
    |zero=>
     simp at hy;subst hy;exact⟨w,rfl,hcl,fun j x hj=>by omega⟩
    |succ k=>
     obtain⟨w',g1,g2,g3⟩:=h7 k y (by simpa using hy);refine⟨w',by simpa using g1,fun j r hr hb=>g2 j r (by rw[List.getElem?_append_left (List.getElem?_eq_some_iff.1 hr).1];exact hr) hb,fun j z hj hz hb=> ?_⟩;cases j with
     |zero=>
      simp at hz;subst hz;exact g2 rs.length x.rc (by simp) (by simpa using hb)
     |succ j=>exact g3 j z (by omega) (by simpa using hz) (by rw[List.length_append,List.length_singleton,show rs.length+1+j=rs.length+(j+1) by omega];exact hb)
  unfold drawOps at h;split at h
  ·rename_i hw
   split at h
   ·rename_i v s1 hv
    split at h
    ·cases h
    ·rename_i hcl
     have hcl:clashes w ⟨s1.log,s.n,s1.n⟩ rs 0=false:=by simpa using hcl
     exact build ⟨{s with log:=[]},v,s1⟩ rfl (.inl ⟨hw,hv⟩) (fun j r hr hb=>clashes_false hcl j r hr (by simpa using hb)) h
   ·cases h
  ·rename_i hw
   exact build ⟨{s with log:=[]},undefA,{s with log:=[]}⟩ rfl (.inr ⟨hw,rfl,rfl⟩) (fun j r hr hb=>clash_empty _ _ _) (by simpa[Stp.rc] using h)
  ·cases h
theorem draw_Text{ops:List Oper}{aa aa':AAct}{s s':St}(h:drawOps P C Y ops ops (waitsA ops) [] aa s= .ok aa' s'):∃ss A S,Text P C Y ops ss A S/\A 0=aa/\S 0=s/\A ops.length=aa'/\S ops.length=s':=by
 obtain⟨ss,A,S,h1,h2,h3,h4,h5,h6,h7⟩:=draw_text ops _ _ _ _ h;refine⟨ss,A,S,⟨h5,h6,fun j k x y hj hx hy hb=> ?_⟩,h1,h2,h3,h4⟩;obtain⟨w,g1,g2,g3⟩:=h7 k y hy;refine g3 j x hj hx ?_;unfold W at hb;rw[List.getD_eq_getElem?_getD,g1] at hb;simpa using hb
end
end Go.Proofs.YtnocnbklhikmnaaGreatDoor.Rk
namespace Go.Proofs.YtnocnbklhikmnaaGreatDoor
open Go Go.RowKit
theorem check_used(b:Nat)(w:World)(h0:w.cell? ⟨b,0,none⟩=some (.pointer (some ⟨b,0,none⟩))):
 Calls Tryz.prog 126 #[.pointer (some ⟨b,0,none⟩)] w fun e w'=>e= .returned (.tuple #[])/\w'=w:=by
 obtain⟨j,hj,hjs⟩:∃j,Tryz.prog.info? 117=some j/\j.size=2:=Option.map_eq_some_iff.1 (show(Tryz.prog.info? 117).map (·.size)=some 2 by kernel_rfl);go_enter Tryz.func126,Tryz.ntmps126;go_wp2;rw[Lib.run_neq_ptr_same w _ Tryz.underlying115 hj];go_wp2;go_end0;exact⟨rfl,rfl⟩
theorem check_fresh(tw n:Nat)(hn:0<n)(hlies:liesAt Tryz.prog Tryz.prog.depth tw (n/Tryz.prog.cellsOf tw) 0 117 1=true)(b:Nat)(w:World)(h0:w.cell? ⟨b,0,none⟩=some (.pointer none))(hsh:w.shape? b=some (tw,n))(hfz:w.frozen? ⟨b,0,none⟩=false):
 Calls Tryz.prog 126 #[.pointer (some ⟨b,0,none⟩)] w fun e w'=>e= .returned (.tuple #[])/\w'=w.setCell ⟨b,0,none⟩ (.pointer (some ⟨b,0,none⟩)):=by
 obtain⟨j,hj,hjs⟩:∃j,Tryz.prog.info? 117=some j/\j.size=2:=Option.map_eq_some_iff.1 (show(Tryz.prog.info? 117).map (·.size)=some 2 by kernel_rfl);go_enter Tryz.func126,Tryz.ntmps126;go_wp2;rw[Lib.run_to_unsafe w ⟨b,0,none⟩ Tryz.underlying115 Tryz.underlying254 hj (by rw[hjs];decide) hsh hn];simp only[Result.andThen];rw[Oper.upon_value];go_wp2;rw[run_callFunc_extern Tryz.func211 (by kernel_rfl) (by kernel_rfl) (by kernel_rfl) (e:=Extern.AbiNoEscape.same) (by kernel_rfl)];rw[Lib.run_noEscape];simp only[Result.andThen];rw[Oper.upon_value];go_wp2;rw[Lib.run_from_unsafe w ⟨b,0,none⟩ Tryz.underlying254 Tryz.underlying115 hj hsh hlies];simp only[Result.andThen];rw[Oper.upon_value];go_wp2;go_end0;exact⟨rfl,rfl⟩
theorem check_fresh_any(p:TypeId×Nat)(hp:p∈[(117,2)])(b:Nat)(w:World)(h0:w.cell? ⟨b,0,none⟩=some (.pointer none))(hsh:w.shape? b=some (p.1,p.2))(hfz:w.frozen? ⟨b,0,none⟩=false):
 Calls Tryz.prog 126 #[.pointer (some ⟨b,0,none⟩)] w fun e w'=>e= .returned (.tuple #[])/\w'=w.setCell ⟨b,0,none⟩ (.pointer (some ⟨b,0,none⟩)):=by
 simp only[List.mem_cons,List.mem_nil_iff,or_false] at hp;subst hp;exact check_fresh 117 2 (by decide) (by kernel_rfl) b w h0 hsh hfz
end Go.Proofs.YtnocnbklhikmnaaGreatDoor
namespace Go.Proofs.YtnocnbklhikmnaaGreatDoor.P
theorem snoc_ind{α:Type}{m:List α->Prop}(h0:m [])(h1:∀l a,m l->m (l++[a]))(l:List α):m l:=by
 have:∀r:List α,m r.reverse:=by
  intro r
  induction r with
  |nil=>exact h0
  |cons a r ih=>rw[List.reverse_cons];exact h1 _ _ ih
 simpa using this l.reverse
def digit(b:UInt8):Bool:=decide (48<=b.toNat/\b.toNat<=57)
def numN(l:List UInt8):Nat:=l.foldl (fun v b=>10*v+(b.toNat-48)) 0
theorem numN_snoc(l:List UInt8)(b:UInt8):numN (l++[b])=10*numN l+(b.toNat-48):=by simp[numN,List.foldl_append]
theorem numN_lt(l:List UInt8)(h:∀b∈l,digit b=true):numN l<10^l.length:=by
 refine snoc_ind (m:=fun l=>(∀b∈l,digit b=true)->numN l<10^l.length) (by simp[numN]) ?_ l h
 ·intro l b ih h
  rw[numN_snoc,List.length_append,List.length_singleton,Nat.pow_succ];have h1:=ih fun x hx=>h x (by simp[hx]);have h2:=h b (by simp);simp[digit] at h2;omega
def numOk(l:List UInt8):Bool:=
 decide (1<=l.length/\l.length<=10/\¬(1<l.length/\l.head? =some 48))&&l.all digit&&decide (numN l<=2147483647)
def numV(l:List UInt8):Int:=if numOk l=true then(numN l:Int) else 0
def numE(l:List UInt8):Int:=if numOk l=true then 0 else 11
end Go.Proofs.YtnocnbklhikmnaaGreatDoor.P
namespace Go.Proofs.YtnocnbklhikmnaaGreatDoor
variable{g:Nat}{l:List UInt8}{w:World}{α β:Type}
section
open Go.RowKit
theorem head_at(s:ByteArray)(h:0<s.size):s.data.toList.head? =some s[0]:=by
 have:0<s.data.toList.length:=by simpa using h
 rw[List.head?_eq_getElem?,List.getElem?_eq_getElem this];rfl
theorem pow_le10{k:Nat}(h:k<=9):10^k<=1000000000:=by
 have:=Nat.pow_le_pow_right (n:=10) (by omega) h;simpa using this
theorem not_all(s:ByteArray)(k:Nat)(h:k<s.size)(hd:P.digit s[k]=false):P.numOk s.data.toList=false:=by
 have hm:s[k]∈s.data.toList:=by
  have:s[k]=s.data.toList[k]'(by simpa using h):=rfl;rw[this];exact List.getElem_mem _
 have:s.data.toList.all P.digit=false:=by
  rw[Bool.eq_false_iff];intro h2;have:=List.all_eq_true.1 h2 _ hm;rw[hd] at this;cases this
 simp[P.numOk,this]
theorem number_any(s:ByteArray)(w:World)(hs:s.size<=maxLen):
 Calls Tryz.prog 159 #[.string s] w fun e w'=>e= .returned (.tuple #[.int .i64 (P.numV s.data.toList),.int .i64 (P.numE s.data.toList)])/\w=w':=by
 unfold maxLen at hs;have bad:∀hb:P.numOk s.data.toList=false,P.numV s.data.toList=0/\P.numE s.data.toList=11:=fun hb=>⟨by simp[P.numV,hb],by simp[P.numE,hb]⟩
 by_cases h0:s.size=0
 ·obtain⟨HV,HE⟩:=bad (by simp[P.numOk,h0])
  rw[HV,HE];have he:s.toList=[]:=by rw[ByteArray.toList_eq];exact List.eq_nil_of_length_eq_zero (by simpa using h0)
  have he2:s.toList.isEmpty=true:=by rw[he];rfl
  have he:=q_ he;clear HV HE bad;go_enter Tryz.func159,Tryz.ntmps159;go_wp2;go_ret2;exact⟨rfl,rfl⟩
 ·have he2:s.toList.isEmpty=false:=by
   rw[ByteArray.toList_eq,Bool.eq_false_iff,ne_eq,List.isEmpty_iff];intro h;apply h0;have:=congrArg List.length h;simpa using this
  by_cases h1:10<s.size
  ·obtain⟨HV,HE⟩:=bad (by simp[P.numOk];intro _ h _;omega)
   rw[HV,HE];clear HV HE bad;go_enter Tryz.func159,Tryz.ntmps159;go_wp2;go_ret2;exact⟨rfl,rfl⟩
  ·have hb0:s[0].toNat<256:=s[0].toNat_lt
   by_cases h2:1<s.size/\s[0].toNat=48
   ·obtain⟨h2,h3⟩:=h2
    have hz:s[0]=48:=UInt8.toNat_inj.1 h3;obtain⟨HV,HE⟩:=bad (by simp[P.numOk,head_at s (by omega),hz];intro _ _ h;omega);rw[HV,HE];have ht:((s[0].toNat:Int)==48)=true:=by rw[beq_iff_eq];omega
    clear HV HE bad hz h3;go_enter Tryz.func159,Tryz.ntmps159;go_wp2;go_ret2;exact⟨rfl,rfl⟩
   ·have fin:Calls Tryz.prog 159 #[.string s] w fun e w'=>e= .returned (.tuple #[.int .i64 (P.numV s.data.toList),.int .i64 (P.numE s.data.toList)])/\w=w':=by
     have Hok:=q_ (show P.numOk s.data.toList=(s.data.toList.all P.digit&&decide (P.numN s.data.toList<=2147483647)) from by
      unfold P.numOk;rw[decide_eq_true (p:=1<=s.data.toList.length/\s.data.toList.length<=10/\¬(1<s.data.toList.length/\s.data.toList.head? =some 48)),Bool.true_and];refine⟨by simp;omega,by simp;omega,?_⟩;rintro⟨ha,hb⟩;rw[head_at s (by omega)] at hb;exact h2 ⟨by simpa using ha,by rw[Option.some.inj hb];rfl⟩)
     have Bad:=q_ bad;clear bad
     have main:∀_:(s.size<=1\/(1<s.size/\((s[0].toNat:Int)==48)=false)),Calls Tryz.prog 159 #[.string s] w fun e w'=>e= .returned (.tuple #[.int .i64 (P.numV s.data.toList),.int .i64 (P.numE s.data.toList)])/\w=w':=by
      intro hcase;have H2:=q_ h2;rcases hcase with h5|⟨h5,h6⟩
      all_goals
       go_enter Tryz.func159,Tryz.ntmps159;go_wp2
       go_loop [4,25] (fun x i=>∃k:Nat,k<=s.size/\i= .int .i64 k/\∃m:Nat,m=P.numN (s.data.toList.take k)/\x= .int .i64 m/\∀b∈s.data.toList.take k,P.digit b=true) (fun _ i=>s.size-(intOf i).toNat)
       case atStart=>exact⟨0,by omega,rfl,0,by simp[P.numN],rfl,by simp⟩
       case round=>
        obtain⟨k,hk,rfl,m,hm,rfl,hall⟩:=hrel;have hlt0:=P.numN_lt (s.data.toList.take k) hall;rw[<-hm,List.length_take,Nat.min_eq_left (by simpa using hk)] at hlt0;have Hm:=q_ hm;have Hall:=q_ hall;clear hm hall;by_cases hlt:k<s.size
        ·have hp:=pow_le10 (k:=k) (by omega)
         have hm2:m<1000000000:=by omega
         have hb:s[k].toNat<256:=s[k].toNat_lt;have hsn:=take_snoc s k hlt;have Hn:=q_ (show P.numN (s.data.toList.take (k+1))=10*m+(s[k].toNat-48) from by rw[hsn,P.numN_snoc,<-Hm.o]);have Hsn:=q_ hsn;clear hsn hp hlt0;by_cases hd:48<=s[k].toNat/\s[k].toNat<=57
         ·have Hd:=q_ (show P.digit s[k]=true from decide_eq_true hd)
          obtain⟨hd1,hd2⟩:=hd;go_wp2
          go_round
          case rel=>exact⟨k+1,by omega,by go_num,_,Hn.o.symm,by go_num,by
           rw[Hsn.o];intro b hb;rcases List.mem_append.1 hb with h|h
           ·exact Hall.o b h
           ·rw[List.mem_singleton.1 h];exact Hd.o⟩
          case measure=>simp[intOf];omega
         ·obtain⟨hv,he9⟩:=Bad.o (not_all s k hlt (decide_eq_false hd))
          have HV:=q_ hv;have HE:=q_ he9;clear hv he9;rcases(by omega:s[k].toNat<48\/(48<=s[k].toNat/\57<s[k].toNat)) with hd1|⟨hd1,hd2⟩
          ·clear hd
           go_wp2;go_ret2;rw[HV.o,HE.o];exact⟨rfl,rfl⟩
          ·clear hd
           go_wp2;go_ret2;rw[HV.o,HE.o];exact⟨rfl,rfl⟩
        ·clear hlt0
         have ht:s.data.toList.take k=s.data.toList:=List.take_of_length_le (by simp;omega);have Hall2:=Hall.o;have Hm2:=Hm.o;rw[ht] at Hall2 Hm2;have ha:s.data.toList.all P.digit=true:=List.all_eq_true.2 Hall2;by_cases hbig:m<=2147483647
         ·have hok:P.numOk s.data.toList=true:=by rw[Hok.o,ha,<-Hm2];simpa using hbig
          have HV:=q_ (show P.numV s.data.toList=m from by simp[P.numV,hok,<-Hm2]);have HE:=q_ (show P.numE s.data.toList=0 from by simp[P.numE,hok]);clear ht ha hok Hall2 Hm2;go_wp2;go_ret2;rw[HV.o,HE.o];exact⟨rfl,rfl⟩
         ·have hok:P.numOk s.data.toList=false:=by rw[Hok.o,ha,<-Hm2];simpa using hbig
          obtain⟨hv,he9⟩:=Bad.o hok;have HV:=q_ hv;have HE:=q_ he9;clear hv he9;clear ht ha hok Hall2 Hm2;go_wp2;go_ret2;rw[HV.o,HE.o];exact⟨rfl,rfl⟩
     exact main (by
      rcases Nat.lt_or_ge 1 s.size with h|h
      ·exact .inr ⟨h,beq_eq_false_iff_ne.2 (by intro e;exact h2 ⟨h,by omega⟩)⟩
      ·exact .inl h)
    exact fin
end
section
open Go Go.RowKit Go.BigFrame
theorem nth_none(z:β)(l:List β)(n:Int)(h:n<1\/(l.length:Int)<n):M.nth z l n=z:=by
 unfold M.nth;rcases h with h|h
 ·rw[if_pos h]
 ·rw[if_neg (by omega),List.getD_eq_getElem?_getD,List.getElem?_eq_none (by omega)]
  rfl
theorem nth_some(z x:β)(l:List β)(j:Nat)(h:l[j]? =some x):M.nth z l ((j:Int)+1)=x:=by
 unfold M.nth;rw[if_neg (by omega),List.getD_eq_getElem?_getD,show((j:Int)+1).toNat-1=j by omega,h];rfl
theorem nthF_any(E:Enc α)(hE:E.n=1)(zz:α)(A:Option Addr)(c:Nat)(xs:List α)(n:Int)(S:Nat->Prop)(w:World)(hS:∀b,S b->b<w.heap.size)(hz:E.R w S [.slice none 0 0] zz)(hok:SOk A xs.length c)(hl:LAt E w S A xs.length xs)(hn:I64 n):
 ∃v b,E.R w S [v] (M.nth zz xs n)/\∀W,Below w.heap.size w W->Calls Tryz.prog 138 #[.slice A xs.length c,.int .i64 n] W fun e w'=>e= .returned (.tuple #[v,.bool b])/\Below W.heap.size W w':=by
 have hm:=hok.le;by_cases h1:n<1
 ·have q1:decide (n<1)=true:=by simp[h1]
  refine⟨_,false,by rw[nth_none zz xs n (.inl h1)];exact hz,fun W hW=> ?_⟩;clear h1 hW hS hz hl hok;go_enter Tryz.func138,Tryz.ntmps138;go_wp2;go_ret2;exact⟨rfl,Below.refl _ _⟩
 ·have q1:decide (n<1)=false:=by simp[h1]
  by_cases h2:(xs.length:Int)<n
  ·have q2:decide ((xs.length:Int)<n)=true:=by simp[h2]
   refine⟨_,false,by rw[nth_none zz xs n (.inr h2)];exact hz,fun W hW=> ?_⟩;clear h1 h2 hW hS hz hl hok;go_enter Tryz.func138,Tryz.ntmps138;go_wp2;go_ret2;exact⟨rfl,Below.refl _ _⟩
  ·obtain⟨j,rfl⟩:∃j:Nat,n=(j:Int)+1:=⟨(n-1).toNat,by omega⟩
   have hj:j<xs.length:=by omega
   have q2:decide ((xs.length:Int)<(j:Int)+1)=false:=by simp;omega
   obtain⟨a,x,v,rfl,hb,hx,hr,hc0⟩:=hl.in1 hE hj;refine⟨v,true,by rw[nth_some zz x xs j hx];exact hr,fun W hW=> ?_⟩;have hc:=(hW.cell (p:=a.add j) (by rw[block_of_add];exact hS _ hb)).trans hc0;clear h1 h2 hx hr hn hc0 hW hS hz hl hok;generalize xs.length=m at*;go_enter Tryz.func138,Tryz.ntmps138;go_wp2;go_ret2;exact⟨rfl,Below.refl _ _⟩
theorem nthR_any(E:Enc α)(hE:E.n=1)(zz:α)(A:Option Addr)(c:Nat)(xs:List α)(n:Int)(S:Nat->Prop)(w:World)(hS:∀b,S b->b<w.heap.size)(hz:E.R w S [.slice none 0 0] zz)(hok:SOk A xs.length c)(hl:LAt E w S A xs.length xs)(hn:I64 n):
 ∃v b,E.R w S [v] (M.nth zz xs n)/\∀W,Below w.heap.size w W->Calls Tryz.prog 139 #[.slice A xs.length c,.int .i64 n] W fun e w'=>e= .returned (.tuple #[v,.bool b])/\Below W.heap.size W w':=by
 have hm:=hok.le;by_cases h1:n<1
 ·have q1:decide (n<1)=true:=by simp[h1]
  refine⟨_,false,by rw[nth_none zz xs n (.inl h1)];exact hz,fun W hW=> ?_⟩;clear h1 hW hS hz hl hok;go_enter Tryz.func139,Tryz.ntmps139;go_wp2;go_ret2;exact⟨rfl,Below.refl _ _⟩
 ·have q1:decide (n<1)=false:=by simp[h1]
  by_cases h2:(xs.length:Int)<n
  ·have q2:decide ((xs.length:Int)<n)=true:=by simp[h2]
   refine⟨_,false,by rw[nth_none zz xs n (.inr h2)];exact hz,fun W hW=> ?_⟩;clear h1 h2 hW hS hz hl hok;go_enter Tryz.func139,Tryz.ntmps139;go_wp2;go_ret2;exact⟨rfl,Below.refl _ _⟩
  ·obtain⟨j,rfl⟩:∃j:Nat,n=(j:Int)+1:=⟨(n-1).toNat,by omega⟩
   have hj:j<xs.length:=by omega
   have q2:decide ((xs.length:Int)<(j:Int)+1)=false:=by simp;omega
   obtain⟨a,x,v,rfl,hb,hx,hr,hc0⟩:=hl.in1 hE hj;refine⟨v,true,by rw[nth_some zz x xs j hx];exact hr,fun W hW=> ?_⟩;have hc:=(hW.cell (p:=a.add j) (by rw[block_of_add];exact hS _ hb)).trans hc0;clear h1 h2 hx hr hn hc0 hW hS hz hl hok;generalize xs.length=m at*;go_enter Tryz.func139,Tryz.ntmps139;go_wp2;go_ret2;exact⟨rfl,Below.refl _ _⟩
theorem nthC_any(E:Enc α)(hE:E.n=1)(zz:α)(A:Option Addr)(c:Nat)(xs:List α)(n:Int)(S:Nat->Prop)(w:World)(hS:∀b,S b->b<w.heap.size)(hz:E.R w S [.slice none 0 0] zz)(hok:SOk A xs.length c)(hl:LAt E w S A xs.length xs)(hn:I64 n):
 ∃v b,E.R w S [v] (M.nth zz xs n)/\∀W,Below w.heap.size w W->Calls Tryz.prog 140 #[.slice A xs.length c,.int .i64 n] W fun e w'=>e= .returned (.tuple #[v,.bool b])/\Below W.heap.size W w':=by
 have hm:=hok.le;by_cases h1:n<1
 ·have q1:decide (n<1)=true:=by simp[h1]
  refine⟨_,false,by rw[nth_none zz xs n (.inl h1)];exact hz,fun W hW=> ?_⟩;clear h1 hW hS hz hl hok;go_enter Tryz.func140,Tryz.ntmps140;go_wp2;go_ret2;exact⟨rfl,Below.refl _ _⟩
 ·have q1:decide (n<1)=false:=by simp[h1]
  by_cases h2:(xs.length:Int)<n
  ·have q2:decide ((xs.length:Int)<n)=true:=by simp[h2]
   refine⟨_,false,by rw[nth_none zz xs n (.inr h2)];exact hz,fun W hW=> ?_⟩;clear h1 h2 hW hS hz hl hok;go_enter Tryz.func140,Tryz.ntmps140;go_wp2;go_ret2;exact⟨rfl,Below.refl _ _⟩
  ·obtain⟨j,rfl⟩:∃j:Nat,n=(j:Int)+1:=⟨(n-1).toNat,by omega⟩
   have hj:j<xs.length:=by omega
   have q2:decide ((xs.length:Int)<(j:Int)+1)=false:=by simp;omega
   obtain⟨a,x,v,rfl,hb,hx,hr,hc0⟩:=hl.in1 hE hj;refine⟨v,true,by rw[nth_some zz x xs j hx];exact hr,fun W hW=> ?_⟩;have hc:=(hW.cell (p:=a.add j) (by rw[block_of_add];exact hS _ hb)).trans hc0;clear h1 h2 hx hr hn hc0 hW hS hz hl hok;generalize xs.length=m at*;go_enter Tryz.func140,Tryz.ntmps140;go_wp2;go_ret2;exact⟨rfl,Below.refl _ _⟩
theorem nthS_any(E:Enc α)(hE:E.n=1)(zz:α)(A:Option Addr)(c:Nat)(xs:List α)(n:Int)(S:Nat->Prop)(w:World)(hS:∀b,S b->b<w.heap.size)(hz:E.R w S [.string ⟨#[]⟩] zz)(hok:SOk A xs.length c)(hl:LAt E w S A xs.length xs)(hn:I64 n):
 ∃v b,E.R w S [v] (M.nth zz xs n)/\∀W,Below w.heap.size w W->Calls Tryz.prog 141 #[.slice A xs.length c,.int .i64 n] W fun e w'=>e= .returned (.tuple #[v,.bool b])/\Below W.heap.size W w':=by
 have hm:=hok.le;by_cases h1:n<1
 ·have q1:decide (n<1)=true:=by simp[h1]
  refine⟨_,false,by rw[nth_none zz xs n (.inl h1)];exact hz,fun W hW=> ?_⟩;clear h1 hW hS hz hl hok;go_enter Tryz.func141,Tryz.ntmps141;go_wp2;go_ret2;exact⟨rfl,Below.refl _ _⟩
 ·have q1:decide (n<1)=false:=by simp[h1]
  by_cases h2:(xs.length:Int)<n
  ·have q2:decide ((xs.length:Int)<n)=true:=by simp[h2]
   refine⟨_,false,by rw[nth_none zz xs n (.inr h2)];exact hz,fun W hW=> ?_⟩;clear h1 h2 hW hS hz hl hok;go_enter Tryz.func141,Tryz.ntmps141;go_wp2;go_ret2;exact⟨rfl,Below.refl _ _⟩
  ·obtain⟨j,rfl⟩:∃j:Nat,n=(j:Int)+1:=⟨(n-1).toNat,by omega⟩
   have hj:j<xs.length:=by omega
   have q2:decide ((xs.length:Int)<(j:Int)+1)=false:=by simp;omega
   obtain⟨a,x,v,rfl,hb,hx,hr,hc0⟩:=hl.in1 hE hj;refine⟨v,true,by rw[nth_some zz x xs j hx];exact hr,fun W hW=> ?_⟩;have hc:=(hW.cell (p:=a.add j) (by rw[block_of_add];exact hS _ hb)).trans hc0;clear h1 h2 hx hr hn hc0 hW hS hz hl hok;generalize xs.length=m at*;go_enter Tryz.func141,Tryz.ntmps141;go_wp2;go_ret2;exact⟨rfl,Below.refl _ _⟩
end
section
open Go Go.RowKit Go.BigFrame Go.Maps
theorem laidOutP:laidOutB Tryz.prog=true:=by kernel_rfl
theorem path_cells:Tryz.prog.cellsOf 135=6:=by kernel_rfl
theorem cells_str:Tryz.prog.cellsOf 9=1:=by kernel_rfl
theorem cells_int:Tryz.prog.cellsOf 3=1:=by kernel_rfl
theorem types_two:∃n,Tryz.prog.types.size=n+2:=⟨Tryz.prog.types.size-2,by
 have:decide (2<=Tryz.prog.types.size)=true:=by kernel_rfl
 have:=of_decide_eq_true this;omega⟩
theorem int_wf{n:Int}(h:I64 n):(Lit.int .i64 n).wf=true:=by
 unfold I64 at h;show(decide (IntKind.i64.min<=n)&&decide (n<=IntKind.i64.max))=true
 rw[show IntKind.i64.min= -9223372036854775808 from rfl,show IntKind.i64.max=9223372036854775807 from rfl,decide_eq_true h.1,decide_eq_true h.2];rfl
end
section
open Go
open Go.RowKit Go.BigFrame
def BytesAt(w:World)(g:Nat)(l:List UInt8):Prop:=
 ∃cs t m,w.heap[g]? =some (.cells cs t (m,m+1))/\l.length<=m/\∀i,i<l.length->cs[i]? =(cellsU8 l)[i]?
theorem BytesAt.cell(h:BytesAt w g l)(i:Nat)(hi:i<l.length):w.cell? ⟨g,i,none⟩=some (.int .u8 (l[i].toNat:Int)):=by
 obtain⟨cs,t,m,h1,h2,h3⟩:=h;rw[cell_of_row w g i cs t _ h1,h3 i hi,cellsU8_get];simp[hi]
theorem BytesAt.frozen(h:BytesAt w g l)(i:Nat)(hi:i<l.length):w.frozen? ⟨g,i,none⟩=false:=by
 obtain⟨cs,t,m,h1,h2,h3⟩:=h;simp[World.frozen?,h1];omega
theorem BytesAt.set_(h:BytesAt w g l)(i:Nat)(hi:i<l.length)(b:UInt8):BytesAt (w.setCell ⟨g,i,none⟩ (.int .u8 (b.toNat:Int))) g (l.set i b):=by
 obtain⟨cs,t,m,h1,h2,h3⟩:=h;refine⟨cs.setIfInBounds i (.int .u8 (b.toNat:Int)),t,m,by simp[World.setCell,Array.getElem?_modify,h1],by simpa using h2,fun j hj=> ?_⟩;rw[<-cellsU8_set];by_cases hij:i=j
 ·subst hij
  rw[Array.getElem?_setIfInBounds_self,Array.getElem?_setIfInBounds_self];have h4:=h3 i hi;have hc:i<(cellsU8 l).size:=by rw[cellsU8_size];exact hi
  rw[Array.getElem?_eq_getElem hc] at h4
  have hcs:i<cs.size:=by
   rcases Nat.lt_or_ge i cs.size with h|h
   ·exact h
   ·rw[Array.getElem?_eq_none h] at h4;cases h4
  simp[hcs,hc]
 ·rw[Array.getElem?_setIfInBounds_ne hij,Array.getElem?_setIfInBounds_ne hij]
  exact h3 j (by simpa using hj)
theorem BytesAt.string{c:Nat}(h:BytesAt w g l):
 (convert 82 9 (.slice (some ⟨g,0,none⟩) l.length c)).run Tryz.prog w= .ok (.string ⟨l.toArray⟩) w:=by
 have h1:=run_convert_bytes_arg (P:=Tryz.prog) w 82 5 Tryz.underlying82 Tryz.underlying5 g 0 l.length c (l.map fun b=>(b.toNat:Int)) (by simp) (fun i hi=>by
  rw[Nat.zero_add,h.cell i hi];simp[hi]) 9 Tryz.underlying9
 rw[h1];have he:((fun n:Int=>UInt8.ofNat n.toNat)∘fun b:UInt8=>(b.toNat:Int))=id:=by funext b;simp
 simp[strOfNums,he]
theorem bytes_of(w:World)(s:ByteArray):∃c W2,(convert 9 82 (.string s)).run Tryz.prog w= .ok (.slice (some ⟨w.heap.size,0,none⟩) s.size c) W2/\s.size<=c/\BytesAt W2 w.heap.size s.data.toList/\Below w.heap.size w W2:=by
 have h:=Lib.run_convert_string_bytes (P:=Tryz.prog) w 9 82 5 s Tryz.underlying9 Tryz.underlying82 Tryz.underlying5;refine⟨_,_,h,?_,?_,?_⟩
 ·exact grownCap_ge _ _ _ _
 ·refine⟨_,_,_,Lib.bytesWorld_at_new w _ s,?_,?_⟩
  ·simp[Lib.bytesCells]
  ·intro i hi
   have hi':i<s.data.size:=by simpa using hi
   simp[Lib.bytesCells,Array.getElem?_append,cellsU8];intro h;have:s.data.size=s.size:=rfl;omega
 ·refine⟨rfl,rfl,rfl,by rw[Lib.bytesWorld_size];omega,fun k hk=>Lib.bytesWorld_at_old w _ s k hk⟩
end
section
open Go Go.RowKit Go.BigFrame
theorem results_cell1{fn:Func}{p:Tmp}{ty:TypeId}(h:fn.results=#[.cell p ty])(tmps:Array Value)(P:Program)(w:World):
 (results fn tmps).run P w=((asAddr (tmps.getD p undef)).run P w).andThen fun a w₁=>(loadVar ty a).run P w₁:=by
 simp only[results,h];simp[Sem.run_bind,Result.andThen]
end
section
open Go Go.RowKit
def uponP(P:Program)(KP:List PanicEntry->World->Prop)(K:Value->World->Prop):Result Next->Prop
 | .ok (.value v) w'=>K v w'
 | .ok .skip w'=>K undef w'
 | .ok (.enter f args) w'=>Calls P f args w' fun e w''=>(∃u,e= .returned u/\K u w'')\/∃ch,e= .panicked ch/\KP ch w''
 |_=>False
def stepP(P:Program)(ops:Array Oper)(KP:List PanicEntry->World->Prop)(o:Oper)(a:Act)(w:World)(K:Value->World->Prop):Prop:=
 if Region.wanted o (yielded ops a.tmps)=true then uponP P KP K ((execOp a.eval o).run P w) else K undef w
attribute [go_sem] stepP uponP
theorem op_of_stepP{P:Program}{ops:Array Oper}{R:World->World->Prop}{B:Nat->Option (Value->World->Prop)}{late:List Nat}{w0:World}{n:Nat}{KP:List PanicEntry->World->Prop}{a a':Act}{c vs:Nat->Value}{listed:Array Bool}{w':World}{i:Nat}{o:Oper}{K:Value->World->Prop}{Q':Exit->Act->World->Prop}(hf:Free ops late n)(inv:InvF ops R B w0 n a c vs listed a' w')(hi:i<n)(ho:ops[i]? =some o)(hr:i∈Region.ready .any ops listed)(hP:∀ch a2 w2,a2.defers=a.defers->KP ch w2->Q' (.panic ch) a2 w2)(h:stepP P ops KP o (textF ops B a c vs i) w' K):wpOp P ops Q' i (fun a2 w2=>∃v,a2=a'.put o.dst v/\K v w2) a' w':=by
 obtain⟨e1,e2⟩:=same_text hf inv hi ho hr;unfold stepP at h;rw[<-e1,<-e2] at h;unfold wpOp;simp only[ho];split
 ·rename_i hw
  simp only[hw,if_true] at h;refine .inl ?_;unfold Oper.wp;generalize (execOp a'.eval o).run P w'=r at*;cases r with
  |ok m w2=>
   cases m<;>simp only[uponP] at h<;>simp only[Oper.upon]
   case value u=>exact⟨u,rfl,h⟩
   case skip=>exact⟨undef,rfl,h⟩
   case enter f args=>
    refine Calls.mono h fun e w3 he=> ?_;rcases he with⟨u,rfl,hk⟩|⟨ch,rfl,hk⟩
    ·exact⟨u,rfl,hk⟩
    ·exact hP ch a' w3 inv.defers hk
   all_goals exact h.elim
  |halt x w2=>simp[uponP] at h
 ·rename_i hw
  simp only[hw] at h;exact⟨undef,rfl,h⟩
section
variable (P:Program) (ops:Array Oper) (KP:List PanicEntry->World->Prop) (I:(Nat->Bool)->(Nat->Value)->World->Prop) (F:List Nat)
def wpGenP(n:Nat)(Q:Act->World->Prop):List Oper->Nat->((Nat->Value)->Act)->Prop
 |[],_,A=>∀vs w,I (fun j=>decide (j<n)) vs w->Q (A vs) w
 |o::rest,k,A=>if F.contains k=true
  then(∀L vs w,I L vs w->Rdy ops k L->L k=false->∀K:Value->World->Prop,(∀v w',I (upd L k) (updv vs k v) w'->K v w')->stepP P ops KP o (A vs) w K)/\wpGenP n Q rest (k+1) (fun vs=>(A vs).put o.dst (vs k))
  else∃v,(∀L vs w,I L vs w->Rdy ops k L->L k=false->∀K:Value->World->Prop,(∀w',I (upd L k) (updv vs k v) w'->K v w')->stepP P ops KP o (A vs) w K)/\wpGenP n Q rest (k+1) (fun vs=>(A vs).put o.dst v)
end
section
variable {P:Program} {ops:Array Oper} {KP:List PanicEntry->World->Prop} {I:(Nat->Bool)->(Nat->Value)->World->Prop} {F:List Nat} {n:Nat}
structure StepsP(P:Program)(ops:Array Oper)(KP:List PanicEntry->World->Prop)(I:(Nat->Bool)->(Nat->Value)->World->Prop)(F:List Nat)(n:Nat)(Q:Act->World->Prop)(a:Act)(c:Nat->Value)(k:Nat):Prop where
 step:∀i o,k<=i->i<n->ops[i]? =some o->∀L vs w,I L vs w->Rdy ops i L->L i=false->stepP P ops KP o (textF ops (BB F) a c vs i) w fun v w'=>I (upd L i) (updv vs i v) w'/\(F.contains i=false->v=c i)
 last:∀vs w,I (fun j=>decide (j<n)) vs w->Q (textF ops (BB F) a c vs n) w
theorem steps_genP{Q:Act->World->Prop}{a:Act}:∀(l:List Oper) (k:Nat) (A:(Nat->Value)->Act) (c:Nat->Value),(∀j,j<l.length->l[j]? =ops[k+j]?)->k+l.length=n->(∀vs,A vs=textF ops (BB F) a c vs k)->
 wpGenP P ops KP I F n Q l k A->∃c',(∀j,j<k->c' j=c j)/\StepsP P ops KP I F n Q a c' k
 |[],k,A,c,_,hk,hA,h=>⟨c,fun _ _=>rfl,fun i o h1 h2=>by simp at hk;omega,fun vs w hi=>by
   have:k=n:=by simpa using hk
   subst this;rw[<-hA];exact h vs w hi⟩
 |o::l,k,A,c,hl,hk,hA,h=>by
  have h0:ops[k]? =some o:=by simpa using(hl 0 (by simp)).symm
  have hl':∀j,j<l.length->l[j]? =ops[k+1+j]? :=fun j hj=>by have:=hl (j+1) (by simp;omega);simpa[Nat.add_assoc,Nat.add_comm 1 j] using this
  have hk':k+1+l.length=n:=by simp at hk;omega
  unfold wpGenP at h;cases hF:F.contains k with
  |false=>
   simp only[hF,Bool.false_eq_true,if_false] at h;obtain⟨v,h1,h2⟩:=h
   let c1:Nat->Value:=fun j=>if j=k then v else c j
   have hA1:∀vs,(A vs).put o.dst v=textF ops (BB F) a c1 vs (k+1):=fun vs=>by
    unfold textF;rw[hA,textF_congr (c:=c1) (c':=c) k (fun j hj=>by simp[c1];omega)];simp[h0,valF,BB_none hF,c1]
   obtain⟨c2,hc2,hs⟩:=steps_genP l (k+1) _ c1 hl' hk' hA1 h2;refine⟨c2,fun j hj=>by rw[hc2 j (by omega)];simp[c1];omega,fun i oi hi hin hoi L vs w hI hR hL=> ?_,hs.last⟩;by_cases hik:i=k
   ·subst hik
    have:oi=o:=Option.some.inj (hoi.symm.trans h0);subst this;rw[textF_congr (c:=c2) (c':=c) i (fun j hj=>by rw[hc2 j (by omega)];simp[c1];omega),<-hA];exact h1 L vs w hI hR hL _ fun w' hw=>⟨hw,fun _=>by rw[hc2 i (by omega)];simp[c1]⟩
   ·exact hs.step i oi (by omega) hin hoi L vs w hI hR hL
  |true=>
   simp only[hF,if_true] at h;obtain⟨h1,h2⟩:=h
   have hA1:∀vs,(A vs).put o.dst (vs k)=textF ops (BB F) a c vs (k+1):=fun vs=>by
    unfold textF;rw[hA];simp[h0,valF,BB_some hF]
   obtain⟨c2,hc2,hs⟩:=steps_genP l (k+1) _ c hl' hk' hA1 h2;refine⟨c2,fun j hj=>hc2 j (by omega),fun i oi hi hin hoi L vs w hI hR hL=> ?_,hs.last⟩;by_cases hik:i=k
   ·subst hik
    have:oi=o:=Option.some.inj (hoi.symm.trans h0);subst this;rw[textF_congr (c:=c2) (c':=c) i (fun j hj=>hc2 j (by omega)),<-hA];exact h1 L vs w hI hR hL _ fun v w' hw=>⟨hw,fun hn=>by rw[hF] at hn;cases hn⟩
   ·exact hs.step i oi (by omega) hin hoi L vs w hI hR hL
theorem any_genP{a:Act}{c:Nat->Value}{w0:World}{Q:Act->World->Prop}{Q':Exit->Act->World->Prop}(hf:Free ops [] n)(hs:StepsP P ops KP I F n Q a c 0)(hQ:∀a w,Q a w->wpList P ops Q' (ops.toList.drop n) a w)(hP:∀ch a2 w2,a2.defers=a.defers->KP ch w2->Q' (.panic ch) a2 w2):
 ∀(u:Nat) (vs:Nat->Value) (listed:Array Bool) (a':Act) (w':World),leftF n listed=u->InvF ops (fun _ _=>True) (BB F) w0 n a c vs listed a' w'->I (fun j=>listed.getD j false) vs w'->wpAny P .any ops Q' (u+(ops.size-n)) listed a' w'
 |0,vs,listed,a',w',hu,inv,hI=>by
  have hall:∀j,j<n->listed.getD j true=true:=fun j hj=>by
   have:=List.countP_eq_zero.1 hu j (List.mem_range.2 hj);simpa using this
  have hall2:∀j,j<n->listed.getD j false=true:=fun j hj=>by
   have h1:=hall j hj;have h2:j<listed.size:=by rw[inv.head.size];have:=hf.le;omega
   simpa[h2] using h1
  have e1:listed=Array.ofFn fun i:Fin ops.size=>decide (i.val<n):=by
   apply Array.ext (by simp[inv.head.size]);intro j h1 h2;have hj:j<ops.size:=by rw[<-inv.head.size];exact h1
   simp only[Array.getElem_ofFn];by_cases hjn:j<n
   ·have:=hall j hjn
    simpa[h1,hjn] using this
   ·have:=inv.head.tail j (by omega) hj
    simpa[h1,hjn] using this
  have e2:a'=textF ops (BB F) a c vs n:=by
   have hd:=(textF_size (ops:=ops) (B:=BB F) (a:=a) (c:=c) (vs:=vs) n).2;have hz:=(textF_size (ops:=ops) (B:=BB F) (a:=a) (c:=c) (vs:=vs) n).1
   have ht:a'.tmps=(textF ops (BB F) a c vs n).tmps:=by
    apply Array.ext_getElem?;intro d;by_cases hw:∃j o,j<n/\ops[j]? =some o/\o.dst=some d
    ·obtain⟨j,oj,hj,hoj,hdj⟩:=hw
     rcases Nat.lt_or_ge d a.tmps.size with hs|hs
     ·rw[inv.slot j oj d hj hoj (hall2 j hj) hdj hs,textF_slot hf hoj hdj hs n hj (n_)]
     ·rw[Array.getElem?_eq_none (by rw[inv.size];exact hs),Array.getElem?_eq_none (by rw[hz];exact hs)]
    ·rw[inv.other d fun j oj hj hoj _ hdj=>hw ⟨j,oj,hj,hoj,hdj⟩,textF_other n fun j oj hj hoj hdj=>hw ⟨j,oj,hj,hoj,hdj⟩]
   have hdd:=inv.defers.trans hd.symm;cases a';cases hx:textF ops (BB F) a c vs n;rw[hx] at ht hdd;simp only at ht hdd;rw[ht,hdd]
  subst e2
  have hLe:(fun j=>listed.getD j false)=fun j=>decide (j<n):=by
   funext j;rcases Nat.lt_or_ge j n with hj|hj
   ·rw[hall2 j hj];simp[hj]
   ·rcases Nat.lt_or_ge j listed.size with h1|h1
    ·have:=inv.head.tail j hj (by rw[<-inv.head.size];exact h1)
     rw[getD_both this];simp;omega
    ·simp[Array.getD_eq_getD_getElem?,Array.getElem?_eq_none h1]
     omega
  rw[hLe] at hI;have hq:=hQ _ _ (hs.last vs w' hI);have hlen:(ops.toList.drop n).length=ops.size-n:=by simp
  have:=wpAny_of_seq (md:= .any) (Q':=Q') (ops.toList.drop n) n listed _ w' (fun j=>by simp[List.getElem?_drop]) (by rw[hlen,e1];exact hf.seq) hq;rw[hlen] at this;simpa using this
 |u+1,vs,listed,a',w',hu,inv,hI=>by
  rw[show u+1+(ops.size-n)=(u+(ops.size-n))+1 by omega]
  have hex:∃j,j<n/\listed.getD j true=false:=by
   have:0<(List.range n).countP fun j=> !listed.getD j true:=by unfold leftF at hu;omega
   obtain⟨j,hj,hp⟩:=List.countP_pos_iff.1 this;exact⟨j,List.mem_range.1 hj,by simpa using hp⟩
  have hsmall:∀d j,j<=d->j<n->listed.getD j true=false->∃i,i<n/\i∈Region.ready .any ops listed:=by
   intro d
   induction d with
   |zero=>
    intro j hjd hj hun;have hj0:j=0:=by omega
    subst hj0;obtain⟨oj,hoj⟩:∃oj,ops[0]? =some oj:=⟨_,Array.getElem?_eq_getElem (by have:=hf.le;omega)⟩
    exact⟨0,hj,mem_ready.2 ⟨hun,oj,hoj,fun e he hb=>by have:=hf.after 0 oj hoj e he hb;omega⟩⟩
   |succ d ih=>
    intro j hjd hj hun;obtain⟨oj,hoj⟩:∃oj,ops[j]? =some oj:=⟨_,Array.getElem?_eq_getElem (by have:=hf.le;omega)⟩
    by_cases hall:∀e∈oj.after,Region.binds .any e=true->listed.getD e.on false=true
    ·exact⟨j,hj,mem_ready.2 ⟨hun,oj,hoj,hall⟩⟩
    ·simp only[Classical.not_forall] at hall
     obtain⟨e,he,hb,hno⟩:=hall;have hlt:=hf.after j oj hoj e he hb;exact ih e.on (by omega) (by omega) (getD_in (by rw[inv.head.size];have:=hf.le;omega) (by simpa using hno))
  obtain⟨j0,hj0,hun0⟩:=hex
  have hset:∀i,i<n->listed.getD i true=false->leftF n (listed.setIfInBounds i true)=u:=fun i hin hun=>by
   have hisl:i<listed.size:=by rw[inv.head.size];have:=hf.le;omega
   have hc:=cnt_set (fun j=> !listed.getD j true) (fun j=> !(listed.setIfInBounds i true).getD j true) i (fun j hj=>by simp only[getD_set_ne true (Ne.symm hj)]) (by simp[hisl]) (by simp only[hun];rfl) n hin;unfold leftF at hu⊢;omega
  refine⟨fun h0=> ?_,fun i hr=> ?_⟩
  ·obtain⟨i,_,hi⟩:=hsmall j0 j0 (n_) hj0 hun0
   rw[h0] at hi;cases hi
  ·obtain⟨hun,o,ho,hall⟩:=mem_ready.1 hr
   have hisz:i<ops.size:=(Array.getElem?_eq_some_iff.1 ho).1
   have hin:i<n:=by
    rcases Nat.lt_or_ge i n with h|h
    ·exact h
    ·exfalso
     obtain⟨hw1,hw2⟩:=hf.waits (by omega)
     have hin2:i=n:=by
      rcases Nat.lt_or_ge n i with h2|h2
      ·exfalso
       have h3:=List.all_eq_true.1 hw2 i (List.mem_range.2 hisz);simp only[Bool.or_eq_true,decide_eq_true_eq] at h3;rcases h3 with h3|h3
       ·omega
       ·obtain⟨o',ho',e,he,hb,hon⟩:=Region.waitsFor_spec h3
        have:o'=o:=Option.some.inj (ho'.symm.trans ho);subst this;have h4:=hall e he hb;rw[hon,getD_both (inv.head.tail (i-1) (by omega) (by omega))] at h4;cases h4
      ·omega
     subst hin2;obtain⟨j,hj,hjr⟩:=hsmall j0 j0 (n_) hj0 hun0
     have hjl:([]:List Nat).contains j=true:=by
      cases hc:([]:List Nat).contains j with
      |true=>rfl
      |false=>
       rcases needs_listed inv.head.closed (fun j' hw=>by
        obtain⟨o',ho',e,he,hb,hon⟩:=Region.waitsFor_spec hw;have:o'=o:=Option.some.inj (ho'.symm.trans ho);subst this;rw[<-hon];exact hall e he hb) _ j (hw1 j hj hc) with h4|h4
       ·omega
       ·rw[getD_both (mem_ready.1 hjr).1] at h4
        cases h4
     simp at hjl
   have hkn:Rdy ops i (fun j=>listed.getD j false):=fun j hwt=>by
    obtain⟨oi,hoi,e,he,hb,hon⟩:=Region.waitsFor_spec hwt;have:oi=o:=Option.some.inj (hoi.symm.trans ho);subst this;have h1:=hall e he hb;rw[hon] at h1;exact h1
   have hstep:=hs.step i o (Nat.zero_le _) hin ho _ vs w' hI hkn (getD_both hun);refine wpOp_mono (fun a2 w2 h2=> ?_) (op_of_stepP hf inv hin ho hr hP hstep);obtain⟨v,rfl,hI2,hv⟩:=h2
   refine any_genP hf hs hQ hP u (fun j=>if j=i then v else vs j) _ _ w2 (hset i hin hun) (inv_set hf inv hin ho hr trivial (fun j φ v hφ hp=>by
    unfold BB at hφ;split at hφ
    ·cases hφ;trivial
    ·cases hφ) (fun φ hφ=>by
    unfold BB at hφ;split at hφ
    ·cases hφ;trivial
    ·cases hφ) (fun hB=>hv (by
    cases hc:F.contains i with
    |false=>rfl
    |true=>rw[BB_some hc] at hB;cases hB))) ?_
   have e1:(fun j=>(listed.setIfInBounds i true).getD j false)=upd (fun j=>listed.getD j false) i:=by
    funext j;unfold upd;by_cases hji:j=i
    ·subst hji
     have hsz:j<listed.size:=by rw[inv.head.size];exact(Array.getElem?_eq_some_iff.1 ho).1
     simp[hsz]
    ·rw[if_neg hji,getD_set_ne false (Ne.symm hji)]
   rw[e1];exact hI2
theorem wp_region_genP{id:Nat}{Q:Exit->Act->World->Prop}{a:Act}{w:World}{l:List Oper}(n:Nat)(F:List Nat)(I:(Nat->Bool)->(Nat->Value)->World->Prop)(hm:P.follows .mixedOrders=true)(hB:freeB l.toArray [] n=true)(h0:I (fun _=>false) (fun _=>undef) {w with drawn:=w.drawn+1})(hP:∀ch a2 w2,a2.defers=a.defers->KP ch w2->Q (.panic ch) a2 w2)(h:wpGenP P l.toArray KP I F n (fun a w=>∀KK:Exit->Act->World->Prop,(∀e a w,Q e a w->KK e a w)->wpList P l.toArray KK (l.drop n) a w) (l.take n) 0 (fun _=>a)):(Code.region id l.toArray true).wp P Q a w:=by
 have hf:=free_of hB;have hln:n<=l.length:=by simpa using hf.le
 obtain⟨c,_,hs⟩:=steps_genP (ops:=l.toArray) (n:=n) (a:=a) (l.take n) 0 (fun _=>a) (fun _=>undef) (fun j hj=>by simp at hj;simp[hj]) (by simp;omega) (fun vs=>rfl) h;refine wp_region_any hm ?_
 have hu:leftF n (Array.replicate l.toArray.size false)=n:=by
  unfold leftF
  have:∀j∈List.range n,(!(Array.replicate l.toArray.size false).getD j true)=true:=fun j hj=>by
   have:=List.mem_range.1 hj;simp[show j<l.length by omega]
  rw[List.countP_eq_length.2 this];simp
 have:=any_genP (F:=F) (I:=I) (w0:=w) (c:=c) (Q':=Q) hf hs (fun a w hq=>by simpa using hq Q (fun _ _ _ h=>h)) hP n (fun _=>undef) (Array.replicate l.toArray.size false) a {w with drawn:=w.drawn+1} hu
  ⟨⟨by simp,fun j oj _ hl=>(by rw[getD_replicate_false] at hl;cases hl),fun t _ ht=>getD_in (by simpa using ht) (getD_replicate_false _ _)⟩,trivial,fun j φ _ _ hl=>(by rw[getD_replicate_false] at hl;cases hl),rfl,rfl,fun _ _=>rfl,fun j o d _ _ hl=>(by rw[getD_replicate_false] at hl;cases hl)⟩ (by
  have e:(fun j=>(Array.replicate l.toArray.size false).getD j false)=fun _=>false:=by
   funext j;exact getD_replicate_false _ _
  rw[e];exact h0)
 rwa [show n+(l.toArray.size-n)=l.toArray.size by simp;omega] at this
theorem wpGenP_nil{Q:Act->World->Prop}{k:Nat}{A:(Nat->Value)->Act}(h:∀vs w,I (fun j=>decide (j<n)) vs w->Q (A vs) w):wpGenP P ops KP I F n Q [] k A:=h
theorem wpGenP_pure{Q:Act->World->Prop}{o:Oper}{rest:List Oper}{k:Nat}{A:(Nat->Value)->Act}{v:Value}(hF:F.contains k=false)(h1:∀L vs w,I L vs w->Rdy ops k L->L k=false->∀K:Value->World->Prop,(∀w',I (upd L k) (updv vs k v) w'->K v w')->stepP P ops KP o (A vs) w K)(h2:∀KK:((Nat->Value)->Act)->Prop,(∀A',wpGenP P ops KP I F n Q rest (k+1) A'->KK A')->KK (fun vs=>(A vs).put o.dst v)):wpGenP P ops KP I F n Q (o::rest) k A:=by
 unfold wpGenP;rw[if_neg (by rw[hF];simp)];exact⟨v,h1,h2 _ fun _ h=>h⟩
theorem wpGenP_fact{Q:Act->World->Prop}{o:Oper}{rest:List Oper}{k:Nat}{A:(Nat->Value)->Act}(hF:F.contains k=true)(h1:∀L vs w,I L vs w->Rdy ops k L->L k=false->∀K:Value->World->Prop,(∀v w',I (upd L k) (updv vs k v) w'->K v w')->stepP P ops KP o (A vs) w K)(h2:∀KK:((Nat->Value)->Act)->Prop,(∀A',wpGenP P ops KP I F n Q rest (k+1) A'->KK A')->KK (fun vs=>(A vs).put o.dst (vs k))):wpGenP P ops KP I F n Q (o::rest) k A:=by
 unfold wpGenP;rw[if_pos hF];exact⟨h1,h2 _ fun _ h=>h⟩
end
end
section
open Go Go.RowKit Go.BigFrame Go.Maps Go.WideMaps
def FaultP(ch:List PanicEntry):Prop:=∃e at_:Int,e≠0/\ch=[{v:= .iface 141 (.agg #[.int .i64 e,.int .i64 at_]),recovered:=false}]
theorem want_yes(e at_:Int)(w:World):Calls Tryz.prog 84 #[.bool true,.int .i64 e,.int .i64 at_] w fun x w'=>x= .returned (.tuple #[])/\w'=w:=by
 go_enter Tryz.func84,Tryz.ntmps84;go_wp2;go_end0;exact⟨rfl,rfl⟩
theorem want_no(e at_:Int)(he:e≠0)(w:World):Calls Tryz.prog 84 #[.bool false,.int .i64 e,.int .i64 at_] w fun x w'=>(∃ch,x= .panicked ch/\FaultP ch)/\w'=w:=by
 have HE:=q_ he;clear he;go_enter Tryz.func84,Tryz.ntmps84;go_wp2;exact⟨rfl,⟨_,rfl,_,_,HE.o,rfl⟩,rfl⟩
theorem both_any(a b:Int)(w:World):Calls Tryz.prog 85 #[.int .i64 a,.int .i64 b] w fun x w'=>x= .returned (.bool (M.both a b))/\w'=w:=by
 by_cases h1:a=b
 ·have q1:(a==b)=true:=by simp[h1]
  by_cases h2:a=1
  ·have q2:(a==1)=true:=by simp[h2]
   have HB:=q_ (show M.both a b=true by unfold M.both;rw[decide_eq_true h1,decide_eq_true h2];rfl);clear h1 h2;go_enter Tryz.func85,Tryz.ntmps85;go_wp2;go_ret;exact⟨by rw[HB.o];rfl,rfl⟩
  ·have q2:(a==1)=false:=by simp[h2]
   have HB:=q_ (show M.both a b=(a==2) by unfold M.both;rw[decide_eq_true h1,decide_eq_false h2];simp[Bool.beq_eq_decide_eq]);clear h1 h2;go_enter Tryz.func85,Tryz.ntmps85;go_wp2;go_ret;exact⟨by rw[HB.o];rfl,rfl⟩
 ·have q1:(a==b)=false:=by simp[h1]
  have HB:=q_ (show M.both a b=false by simp[M.both,h1]);clear h1;go_enter Tryz.func85,Tryz.ntmps85;go_wp2;go_ret;exact⟨by rw[HB.o];rfl,rfl⟩
abbrev KKey:=Int×ByteArray
def encKK(p:KKey):Value:= .agg #[.int .i64 p.1,.string p.2]
theorem encKK_inj:∀x y:KKey,encKK x=encKK y->x=y:=by
 rintro⟨a,b⟩ ⟨a',b'⟩ h;simp[encKK] at h;obtain⟨rfl,rfl⟩:=h;rfl
theorem known_row:(205:TypeId)<Tryz.prog.types.size:=of_decide_eq_true (by kernel_rfl)
theorem known_wide:(match Tryz.prog.underlying 205 with|some (.array _ _)|some (.struct _)=>true|_=>false)=true:=by kernel_rfl
theorem known_deep:Tryz.prog.keyTypeAt 3 205=true:=by kernel_rfl
theorem known_law:Keyed Tryz.prog 205:=Keyed.of_law (deep_law_laid laidOutP (m:=3) (by omega) known_row known_deep known_wide)
theorem known_cells:Tryz.prog.cellsOf 205=2:=by kernel_rfl
theorem known_keyT:Tryz.prog.keyType 205=true:=by kernel_rfl
theorem known_fields:∃g0 g1:Field,Tryz.prog.underlying 205=some (.struct #[g0,g1])/\(g0.type=3/\g0.offset=0/\(g0.name≠ "_"))/\(g1.type=9/\g1.offset=1/\(g1.name≠ "_")):=
 ⟨_,_,Tryz.underlying205,⟨rfl,rfl,by decide⟩,⟨rfl,rfl,by decide⟩⟩
theorem known_key_of{P:Program}{k ts ti:TypeId}{g0 g1:Field}(hu:P.underlying k=some (.struct #[g0,g1]))(us:P.underlying ts=some .string)(ui:P.underlying ti=some (.int .i64))(t0:g0.type=ti)(t1:g1.type=ts)(o0:g0.offset=0)(o1:g1.offset=1)(n0:g0.name≠ "_")(n1:g1.name≠ "_")(hk:P.keyType k=true)(hc:P.cellsOf k=2)(cs:P.cellsOf ts=1)(ci:P.cellsOf ti=1){n:Nat}(hn:P.types.size=n+2)(o:Int)(s:ByteArray)(hs:s.size<=maxLen)(ho:(Lit.int .i64 o).wf=true):∃kl,keyOf P k (.agg #[.int .i64 o,.string s])=some kl:=by
 simp[keyOf,hu,hk,Value.formed,hc,hn,Program.keyLits,Value.cells,t0,t1,o0,o1,n0,n1,us,ui,cs,ci,hs,ho]
theorem known_key(o:Int)(s:ByteArray)(ho:I64 o)(hs:s.size<=1048576):∃kl,keyOf Tryz.prog 205 (encKK (o,s))=some kl:=by
 obtain⟨g0,g1,hu,⟨t0,o0,n0⟩,⟨t1,o1,n1⟩⟩:=known_fields;obtain⟨n,hn⟩:=types_two;exact known_key_of hu Tryz.underlying9 Tryz.underlying3 t0 t1 o0 o1 n0 n1 known_keyT known_cells cells_str cells_int hn o s (Nat.le_trans hs (by decide)) (int_wf ho)
abbrev MapK(w:World)(b:Nat)(f:KKey->Option Int):Prop:=MapT Tryz.prog 205 encKK w b (fun x=>(f x).map (Value.int .i64))
def findN(f:KKey->Option Int)(name:ByteArray):Nat->Option (Int×Int)
 |0=>none
 |k+1=>match f ((k:Int),name) with
  |some v=>some (v,k)
  |none=>findN f name k
def findV(f:KKey->Option Int)(name:ByteArray)(k:Nat):Value:=match findN f name k with
 |some (v,d)=> .tuple #[.int .i64 v,.int .i64 d]
 |none=> .tuple #[.int .i64 0,.int .i64 (-1)]
theorem find_any(g mb D:Nat)(f:KKey->Option Int)(dv tv:Value)(name:ByteArray)(w:World)(hD:D<=1000)(hc:Blk w g 67 #[dv,tv,.map (some mb),.int .i64 D])(hm:MapK w mb f)(hn:name.size<=1048576):
 Calls Tryz.prog 86 #[.pointer (some ⟨g,0,none⟩),.string name] w fun e w'=>e= .returned (findV f name (D+1))/\Below w.heap.size w w':=by
 have HC:=q_ hc;have HM:=q_ hm;have HS:=q_ (fun(k:Nat)=>show findN f name (k+1)=match f ((k:Int),name) with|some v=>some (v,(k:Int))|none=>findN f name k from rfl);have z:=hc.cell;clear hc hm;go_enter Tryz.func86,Tryz.ntmps86;go_wp2_with fail;clear z;go_loopw [6] (fun v wr=>∃k:Nat,k<=D+1/\v= .int .i64 ((k:Int)-1)/\findN f name k=findN f name (D+1)/\Below w.heap.size w wr) (fun v _=>(intOf v+1).toNat)
 case atStart=>exact⟨D+1,n_,by go_num,rfl,Below.refl _ _⟩
 case round=>
  obtain⟨k,hk,rfl,hf,hb⟩:=hrel;have HF:=q_ hf;have HB:=q_ hb;clear hf hb;cases k with
  |zero=>
   have HE:=q_ (show findV f name (D+1)= .tuple #[.int .i64 0,.int .i64 (-1)] by unfold findV;rw[<-HF.o];rfl);have q1:decide ((0:Int)<=((0:Nat):Int)-1)=false:=by decide
   go_wp2;go_ret2;exact⟨by rw[HE.o];rfl,HB.o⟩
  |succ k=>
   rw[show((k+1:Nat):Int)-1=(k:Int) by omega];have y:=(HC.o.below HB.o HC.o.lt).cell;obtain⟨kl,hkl⟩:=known_key (k:Int) name ⟨by omega,by omega⟩ hn;have hl:=(HM.o.below HB.o HM.o.lt).look known_law Tryz.underlying65 encKK_inj hkl (Tryz.zeroValue3 wr) true;have h1:=HS.o k;cases hq:f ((k:Int),name) with
   |some v=>
    rw[hq] at hl h1;simp only[if_true,Option.map_some,Option.getD_some,Option.isSome_some,encKK] at hl;have HE:=q_ (show findV f name (D+1)= .tuple #[.int .i64 v,.int .i64 k] by unfold findV;rw[<-HF.o,h1]);clear hq h1;go_wp2;go_ret2;exact⟨by rw[HE.o];rfl,HB.o⟩
   |none=>
    rw[hq] at hl h1;simp only[if_true,Option.map_none,Option.getD_none,Option.isSome_none,encKK] at hl;have H2:=q_ (show findN f name k=findN f name (D+1) by rw[<-HF.o,h1]);clear hq h1;go_wp2;go_roundw
    case rel=>exact⟨k,by omega,by go_num,H2.o,HB.o⟩
    case measure=>simp[intOf]
theorem eqT_iff_{a b:ByteArray}:M.eqT a b=true<->a=b:=by
 unfold M.eqT;rw[beq_iff_eq];constructor
 ·intro h
  cases a;cases b;simp at h;rw[h]
 ·intro h
  rw[h]
end
section
open Go.RowKit Go.WideShapes Go.ChangeShapes Go.ChangeAt
section
variable {H:Type} {enc:TypeId×Value->H} {P:Program}
theorem post_of_below{f:Func}{s:ChangeSpec}{apart fresh handsOn again:Bool}{W W':World}{args:Array Value}{v:Value}{ds gs:List (DataW H)}{before pa pv:List MemPlace}(hW:DataW.Whole enc P f.params.toList s.vars apart W args.toList ds gs before)(hres:∀(b:Nat) (sp:Nat->Bool) (hd:Bool),DataW.TrodAll enc P W' b sp hd f.resultTypes.toList (v.resultList f.resultTypes.size) (s.fn H (ds++gs)).results [])(hargs:∀sp:Nat->Bool,(∀p∈before,sp p.block=true)->DataW.TrodAll enc P W' 0 sp true f.params.toList args.toList (s.fn H (ds++gs)).args pa)(hvars:∀sp:Nat->Bool,(∀p∈before,sp p.block=true)->DataW.TrodVars enc P W' sp s.vars (s.fn H (ds++gs)).vars pv)(hps:before=pa++pv)(hb:Below W.heap.size W W')(hok:∀(j:Nat) (t:TypeId) (r:Value),f.resultTypes[j]? =some t->(v.resultList f.resultTypes.size)[j]? =some r->Value.okWide P W' .any 0 t r):
 s.post enc P f apart fresh handsOn again W args v W':=by
 have hlt:∀p∈before,p.block<W.heap.size:=fun p hp=>hW.lt p hp;have hold:∀p∈before,(fun b=>decide (b<W.heap.size)) p.block=true:=fun p hp=>by simpa using hlt p hp
 refine⟨ds,gs,before,[],pa,pv,hW,hres _ _ _,hargs _ hold,hvars _ hold,World.keptBut_mono (fun p hp=>⟨hp,?_⟩) (hb.frame (·∈before)),fun _=> ?_⟩
 ·rw[hps,List.mem_append] at hp
  exact Or.inr hp
 ·obtain⟨_,_,_,_,_,hz,hn⟩:=hW
  refine⟨hok,_,_,([]++pa)++pv,⟨[]++pa,pv,trodAll_append (hargs _ (fun _ _=>rfl)) (hres _ _ _),hvars _ (fun _ _=>rfl),rfl,?_,?_⟩,?_⟩
  ·intro b off hp
   have hin:MemPlace.cell b off∈before:=by rw[hps];simpa using hp
   rw[hb.frozen (hlt _ hin)];exact hz b off hin
  ·intro ha
   have:=hn ha;rw[hps] at this;simpa using this
  ·intro p hp _
   rw[hps];simpa using hp
end
end
end Go.Proofs.YtnocnbklhikmnaaGreatDoor
