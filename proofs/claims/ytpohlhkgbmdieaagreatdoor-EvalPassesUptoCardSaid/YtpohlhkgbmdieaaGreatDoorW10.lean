/- Part 10 of the proof. -/
import Derived.Test.YtpohlhkgbmdieaaGreatDoorW2
import Derived.Test.YtpohlhkgbmdieaaGreatDoorW9
import Derived.Lib.Builder
import Derived.Laws.Externs
import Derived.Test.YtpohlhkgbmdieaaGreatDoorW1
import Derived.Laws.OwnMore
import Derived.Maps.AppendAt
import Derived.Deep.AppendLies
import Derived.OwnWalk
set_option linter.unusedVariables false
set_option maxRecDepth 1000000
set_option maxHeartbeats 16000000
namespace Go.Proofs.YtpohlhkgbmdieaaGreatDoor.Xb
variable{K:Value->World->Prop}{P:Program}{a:Act}{o:Oper}{ops:Array Oper}{t:TypeId}{w w':World}
open Go Go.RowKit Go.Proofs.YtpohlhkgbmdieaaGreatDoor Go.Proofs.YtpohlhkgbmdieaaGreatDoor.Rk
theorem jM{v:Value}(hg:o.guard=none)(hr:(execOp a.eval o).run P w= .ok (.value v) w')(hK:K v w'):ft P ops o a w K:=by
 unfold ft;have hw:Region.wanted o (yielded ops a.tmps)=true:=by simp[Region.wanted,hg]
 rw[if_pos hw,hr];exact hK
theorem kj(hg:o.guard=none)(hr:(execOp a.eval o).run P w= .ok .skip w')(hK:K undef w'):ft P ops o a w K:=by
 unfold ft;have hw:Region.wanted o (yielded ops a.tmps)=true:=by simp[Region.wanted,hg]
 rw[if_pos hw,hr];exact hK
def x6:ByteArray:=⟨#[77,83,72]⟩
def qO(n:Int):Value:= .agg #[.string x6,.int .i64 0,.int .i64 n,.int .i64 0,.int .i64 0,.int .i64 0]
def lK(n:Int):AV:= .agg [.str [77,83,72],.int .i64 0,.int .i64 n,.int .i64 0,.int .i64 0,.int .i64 0]
theorem iL(n:Int):VR (fun _=>none) (lK n) (qO n):= .agg _ _ (.cons _ _ _ _ (.str [77,83,72] (by decide)) (.cons _ _ _ _ (.int _ _) (.cons _ _ _ _ (.int _ _) (.cons _ _ _ _ (.int _ _) (.cons _ _ _ _ (.int _ _) (.cons _ _ _ _ (.int _ _) .nil))))))
theorem tS{kt et:TypeId}{d:TypeDesc}{b clock:Nat}{l:Array MapEntry}{es:List ME}{k:AV}{k' x':Value}(hu:P.underlying t=some (.map kt et))(hd:P.underlying kt=some d)(hk:iM P kt d k=true)(lu:VR (fun _=>none) k k')(hb:w.heap[b]? =some (.map l clock))(hm:MR (fun _=>none) es l.toList)(hf:il k es 0=some none):
 (Instr.mapUpdate t (.map (some b)) k' x').run P w= .ok () {w with heap:=w.heap.setIfInBounds b (.map (l.push {key:=k',val:=x',born:=clock}) (clock+1))}:=by
 rcases eu hd hk lu w 0 hm hf with⟨_,h3⟩|⟨j',v',e',h2,_⟩
 ·unfold Instr.mapUpdate
  rw[Sem.run_bind,run_underlying hu];simp only[Result.andThen_ok,Sem.run_bind,MapKept.run_getObj_map hb,jx hd hk lu,jy hd h3,iN hb]
 ·cases h2
def uB(n:Int)(k:Nat):MapEntry:={key:=qO n,val:= .agg #[],born:=k}
structure fM(W:World)(L:Nat->Bool)(vs:Nat->Value)(w:World):Prop where
 os:w.os=W.os
 tape:w.tape=W.tape
 output:w.output=W.output
 no:L 0=false->w.heap=W.heap
 yes:L 0=true->∃l c,w.heap=W.heap.push (.map l c)/\(L 3=false->L 6=false->l=#[]/\c=0)/\(L 3=true->L 6=false->l=#[uB 1 0]/\c=1)/\(L 3=false->L 6=true->l=#[uB 2 0]/\c=1)/\(L 3=true->L 6=true->c=2/\(l=#[uB 1 0,uB 2 1]\/l=#[uB 2 0,uB 1 1]))
theorem fM.pure{W:World}{L:Nat->Bool}{vs vs':Nat->Value}(h:fM W L vs w){i:Nat}(h0:i≠0)(h3:i≠3)(h6:i≠6):fM W (upd L i) vs' w:=by
 refine⟨h.os,h.tape,h.output,?_,?_⟩<;>simp only[qP (Ne.symm h0),qP (Ne.symm h3),qP (Ne.symm h6)]
 ·exact h.no
 ·exact h.yes
theorem mr1(n:Int)(k:Nat):MR (fun _=>none) [⟨lK n,.agg [],k⟩] [uB n k]:=MR.nil.cons (iL n) (.agg _ _ .nil) rfl
theorem CD{wx:World}{x:Obj}(o:Obj)(n:Nat)(hn:n=w.heap.size)(hh:wx.heap=w.heap.push x):wx.heap.setIfInBounds n o=w.heap.push o:=by
 rw[hh,hn];apply Array.ext_getElem?;intro i;rw[Array.getElem?_setIfInBounds,Array.getElem?_push,Array.getElem?_push];by_cases hi:w.heap.size=i
 ·subst hi
  simp
 ·simp[hi,Ne.symm hi]
theorem pB{m k x:Operand}(hr:(Instr.mapUpdate t (a.eval m) (a.eval k) (a.eval x)).run P w= .ok () w')(ho:o.op= .insert t m k x):(execOp a.eval o).run P w= .ok .skip w':=by
 unfold execOp;rw[ho];simp only[Sem.run_bind,hr,Result.andThen_ok,Sem.run_pure]
theorem oB(w:World):Calls Tryz.prog 273 #[] w fun e w'=>e= .returned (.map (some w.heap.size))/\∃l,Add w w' (.map l 2)/\(l=#[uB 1 0,uB 2 1]\/l=#[uB 2 0,uB 1 1]):=by
 go_enter Tryz.func273,Tryz.ntmps273;go_wp2_with fail;have kY:iM Tryz.prog 127 (.struct (Tryz.prog.fieldsOf 127)) (lK 1)=true:=by kernel_rfl
 have hk2:iM Tryz.prog 127 (.struct (Tryz.prog.fieldsOf 127)) (lK 2)=true:=by kernel_rfl
 have hd:Tryz.prog.underlying 127=some (.struct (Tryz.prog.fieldsOf 127)):=by kernel_rfl
 have hu:Tryz.prog.underlying 303=some (.map 127 301):=by kernel_rfl
 refine uC 7 [] (fM w) (by kernel_rfl) (by kernel_rfl) ⟨rfl,rfl,rfl,fun _=>rfl,fun h=>(by cases h)⟩ ?_;refine dI (v:= .map (some w.heap.size)) rfl ?_ ?_
 ·intro L vs wx hI VS hR hL K hK
  have hh:=hI.no hL;have l3:L 3=false:=VS.off hL (by kernel_rfl);have l6:L 6=false:=VS.off hL (by kernel_rfl);refine jM rfl (w':={wx with heap:=wx.heap.push (.map #[] 0)}) (by rw[<-hh];rfl) (hK _ ⟨hI.os,hI.tape,hI.output,fun h=>(by rw[NM] at h;cases h),fun _=>⟨#[],0,(by show wx.heap.push _=_;rw[hh]),?_⟩⟩);simp only[qP (show(3:Nat)≠0 by decide),qP (show(6:Nat)≠0 by decide),l3,l6];simp
 intro KK af;go_simp;refine af _ ?_;refine dI (v:=qO 1) rfl (fun L vs wx hI VS hR hL K hK=>jM rfl (by kernel_rfl) (hK _ (hI.pure (by decide) (by decide) (by decide)))) ?_;intro KK af;go_simp;refine af _ ?_;refine dI (v:= .agg #[]) rfl (fun L vs wx hI VS hR hL K hK=>jM rfl (by kernel_rfl) (hK _ (hI.pure (by decide) (by decide) (by decide)))) ?_;intro KK af;go_simp;refine af _ ?_;refine dI (v:=undef) rfl ?_ ?_
 ·intro L vs wx hI VS hR hL K hK
  have l0:L 0=true:=hR 0 (by kernel_rfl);obtain⟨l,c,hh,y1,y2,y3,y4⟩:=hI.yes l0;have hb:wx.heap[w.heap.size]? =some (.map l c):=by rw[hh];simp
  have fJ:∀o,wx.heap.setIfInBounds w.heap.size o=w.heap.push o:=fun o=>CD _ _ rfl hh;cases h6:L 6 with
  |false=>
   obtain⟨rfl,rfl⟩:=y1 hL h6;have hr:=tS (x':= .agg #[]) hu hd kY (iL 1) hb .nil rfl;refine kj rfl (w':={wx with heap:=wx.heap.setIfInBounds w.heap.size (.map #[uB 1 0] 1)}) ?_ (hK _ ⟨hI.os,hI.tape,hI.output,fun h=>(by rw[qP (by decide)] at h;rw[l0] at h;cases h),fun _=>⟨#[uB 1 0],1,fJ _,?_⟩⟩)
   ·exact pB (m:= .tmp 1) hr rfl
   ·simp only[NM,qP (show(6:Nat)≠3 by decide),h6]
    simp
  |true=>
   obtain⟨rfl,rfl⟩:=y3 hL h6;have hr:=tS (x':= .agg #[]) hu hd kY (iL 1) hb (mr1 2 0) (by kernel_rfl);refine kj rfl (w':={wx with heap:=wx.heap.setIfInBounds w.heap.size (.map #[uB 2 0,uB 1 1] 2)}) ?_ (hK _ ⟨hI.os,hI.tape,hI.output,fun h=>(by rw[qP (by decide)] at h;rw[l0] at h;cases h),fun _=>⟨#[uB 2 0,uB 1 1],2,fJ _,?_⟩⟩)
   ·exact pB (m:= .tmp 1) hr rfl
   ·simp only[NM,qP (show(6:Nat)≠3 by decide),h6]
    simp
 intro KK af;go_simp;refine af _ ?_;refine dI (v:=qO 2) rfl (fun L vs wx hI VS hR hL K hK=>jM rfl (by kernel_rfl) (hK _ (hI.pure (by decide) (by decide) (by decide)))) ?_;intro KK af;go_simp;refine af _ ?_;refine dI (v:= .agg #[]) rfl (fun L vs wx hI VS hR hL K hK=>jM rfl (by kernel_rfl) (hK _ (hI.pure (by decide) (by decide) (by decide)))) ?_;intro KK af;go_simp;refine af _ ?_;refine dI (v:=undef) rfl ?_ ?_
 ·intro L vs wx hI VS hR hL K hK
  have l0:L 0=true:=hR 0 (by kernel_rfl);obtain⟨l,c,hh,y1,y2,y3,y4⟩:=hI.yes l0;have hb:wx.heap[w.heap.size]? =some (.map l c):=by rw[hh];simp
  have fJ:∀o,wx.heap.setIfInBounds w.heap.size o=w.heap.push o:=fun o=>CD _ _ rfl hh;cases h3:L 3 with
  |false=>
   obtain⟨rfl,rfl⟩:=y1 h3 hL;have hr:=tS (x':= .agg #[]) hu hd hk2 (iL 2) hb .nil rfl;refine kj rfl (w':={wx with heap:=wx.heap.setIfInBounds w.heap.size (.map #[uB 2 0] 1)}) ?_ (hK _ ⟨hI.os,hI.tape,hI.output,fun h=>(by rw[qP (by decide)] at h;rw[l0] at h;cases h),fun _=>⟨#[uB 2 0],1,fJ _,?_⟩⟩)
   ·exact pB (m:= .tmp 1) hr rfl
   ·simp only[NM,qP (show(3:Nat)≠6 by decide),h3]
    simp
  |true=>
   obtain⟨rfl,rfl⟩:=y2 h3 hL;have hr:=tS (x':= .agg #[]) hu hd hk2 (iL 2) hb (mr1 1 0) (by kernel_rfl);refine kj rfl (w':={wx with heap:=wx.heap.setIfInBounds w.heap.size (.map #[uB 1 0,uB 2 1] 2)}) ?_ (hK _ ⟨hI.os,hI.tape,hI.output,fun h=>(by rw[qP (by decide)] at h;rw[l0] at h;cases h),fun _=>⟨#[uB 1 0,uB 2 1],2,fJ _,?_⟩⟩)
   ·exact pB (m:= .tmp 1) hr rfl
   ·simp only[NM,qP (show(3:Nat)≠6 by decide),h3]
    simp
 intro KK af;go_simp;refine af _ ?_;refine FO ?_;intro vs wx hI;obtain⟨l,c,hh,_,_,_,y4⟩:=hI.yes rfl;obtain⟨rfl,hl⟩:=y4 rfl rfl;have hA:Add w wx (.map l 2):=⟨hI.os,hI.tape,hI.output,by rw[hh];simp,by rw[hh];simp,fun B hB=>by rw[hh,Array.getElem?_push_lt hB,Array.getElem?_eq_getElem hB]⟩
 intro K2 hK2;go_wp2;go_ret;exact⟨rfl,l,hA,hl⟩
end Go.Proofs.YtpohlhkgbmdieaaGreatDoor.Xb
namespace Go.Proofs.YtpohlhkgbmdieaaGreatDoor
open Go Go.RowKit
theorem uD(b:Nat)(w:World)(h0:w.cell? ⟨b,0,none⟩=some (.pointer (some ⟨b,0,none⟩))):
 Calls Tryz.prog 117 #[.pointer (some ⟨b,0,none⟩)] w fun e w'=>e= .returned (.tuple #[])/\w'=w:=by
 obtain⟨j,hj,Zw⟩:∃j,Tryz.prog.info? 117=some j/\j.size=2:=Option.map_eq_some_iff.1 (show(Tryz.prog.info? 117).map (·.size)=some 2 by kernel_rfl);go_enter Tryz.func117,Tryz.ntmps117;go_wp2;rw[Lib.run_neq_ptr_same w _ Tryz.underlying115 hj];go_wp2;go_end0;exact⟨rfl,rfl⟩
theorem rU(tw n:Nat)(hn:0<n)(NN:liesAt Tryz.prog Tryz.prog.depth tw (n/Tryz.prog.cellsOf tw) 0 117 1=true)(b:Nat)(w:World)(h0:w.cell? ⟨b,0,none⟩=some (.pointer none))(kZ:w.shape? b=some (tw,n))(hfz:w.frozen? ⟨b,0,none⟩=false):
 Calls Tryz.prog 117 #[.pointer (some ⟨b,0,none⟩)] w fun e w'=>e= .returned (.tuple #[])/\w'=w.setCell ⟨b,0,none⟩ (.pointer (some ⟨b,0,none⟩)):=by
 obtain⟨j,hj,Zw⟩:∃j,Tryz.prog.info? 117=some j/\j.size=2:=Option.map_eq_some_iff.1 (show(Tryz.prog.info? 117).map (·.size)=some 2 by kernel_rfl);go_enter Tryz.func117,Tryz.ntmps117;go_wp2;rw[Lib.run_to_unsafe w ⟨b,0,none⟩ Tryz.underlying115 Tryz.underlying212 hj (by rw[Zw];decide) kZ hn];simp only[Result.andThen];rw[Oper.upon_value];go_wp2;rw[run_callFunc_extern Tryz.func159 (by kernel_rfl) (by kernel_rfl) (by kernel_rfl) (e:=Extern.AbiNoEscape.same) (by kernel_rfl)];rw[Lib.run_noEscape];simp only[Result.andThen];rw[Oper.upon_value];go_wp2;rw[Lib.run_from_unsafe w ⟨b,0,none⟩ Tryz.underlying212 Tryz.underlying115 hj kZ NN];simp only[Result.andThen];rw[Oper.upon_value];go_wp2;go_end0;exact⟨rfl,rfl⟩
theorem sP(p:TypeId×Nat)(hp:p∈[(117,2)])(b:Nat)(w:World)(h0:w.cell? ⟨b,0,none⟩=some (.pointer none))(kZ:w.shape? b=some (p.1,p.2))(hfz:w.frozen? ⟨b,0,none⟩=false):
 Calls Tryz.prog 117 #[.pointer (some ⟨b,0,none⟩)] w fun e w'=>e= .returned (.tuple #[])/\w'=w.setCell ⟨b,0,none⟩ (.pointer (some ⟨b,0,none⟩)):=by
 simp only[List.mem_cons,List.mem_nil_iff,or_false] at hp;subst hp;exact rU 117 2 (by decide) (by kernel_rfl) b w h0 kZ hfz
end Go.Proofs.YtpohlhkgbmdieaaGreatDoor
namespace Go.Proofs.YtpohlhkgbmdieaaGreatDoor.Rk
open Go Go.RowKit
section
variable {P:Program} {ρ:Env} {T:Nat->Nat->Prop} {s s':St} {w w':World}
theorem rV.Zx{f:FuncId}{g:List AV->St->Option (AV×St)}(hP:dJ P=true)(hb:(P.funcs[f]?).any (·.body.isSome)=true)(h:rV P f g):im P f g:=by
 intro args s v s' hg bf;obtain⟨m,k⟩:=h args s v s' hg bf;refine⟨m,fun ρ T w vs hp bo=>⟨fun w1=> ?_,fun n=>callsIn_wide.2 (k ρ T w vs hp bo)⟩⟩;cases hfn:P.funcs[f]?with
 |none=>rw[hfn] at hb;cases hb
 |some fn=>
  rw[hfn] at hb;obtain⟨c,hc⟩:=Option.isSome_iff_exists.1 (by simpa using hb);exact enters hP hfn hc vs w1
theorem jz.none:jz P (fun _=>none):=fun f g h=>by cases h
theorem CG{f:FuncId}{k1 k2 v0:AV}{k1' k2' v':Value}(h1:∀ρ,VR ρ k1 k1')(h2:∀ρ,VR ρ k2 k2')(h3:∀ρ,VR ρ v0 v')(K:∀w:World,Calls P f #[] w fun e w'=>e= .returned (.map (some w.heap.size))/\∃l:Array MapEntry,Add w w' (.map l 2)/\(l=#[⟨k1',v',0⟩,⟨k2',v',1⟩]\/l=#[⟨k2',v',0⟩,⟨k1',v',1⟩])):rV P f (tT k1 k2 v0):=by
 intro args s v s' h bf;unfold tT at h;split at h
 ·cases h
  refine⟨aF.new _ _,fun ρ T w vs hp bo=> ?_⟩
  have Xc:vs=#[]:=by
   rcases vs with⟨l⟩
   cases bo;rfl
  subst Xc;have hf:ρ s.n=none:=hp.fresh s.n (n_) (Nat.lt_succ_self _);refine(K w).mono ?_
  rintro e w' ⟨rfl,l,hA,hl⟩;refine⟨_,Post.made (o:= .map l 2) (r:=⟨w.heap.size,0,0⟩) hp.good hp.wf hf hp.tn hA rfl ?_,VR.map s.n _ (Env.bz _ _)⟩;rcases hl with rfl|rfl
  ·exact⟨_,_,[⟨k1,v0,0⟩,⟨k2,v0,1⟩],2,Env.bz _ _,hA.here,List.Perm.refl _,.cons _ _ _ _ (h1 _) (.cons _ _ _ _ (h2 _) .nil),.cons _ _ _ _ (h3 _) (.cons _ _ _ _ (h3 _) .nil)⟩
  ·exact⟨_,_,[⟨k2,v0,1⟩,⟨k1,v0,0⟩],2,Env.bz _ _,hA.here,List.Perm.swap _ _ _,.cons _ _ _ _ (h2 _) (.cons _ _ _ _ (h1 _) .nil),.cons _ _ _ _ (h3 _) (.cons _ _ _ _ (h3 _) .nil)⟩
 ·cases h
end
end Go.Proofs.YtpohlhkgbmdieaaGreatDoor.Rk
namespace Go.Proofs.YtpohlhkgbmdieaaGreatDoor
section
open Go Go.Proofs Go.Proofs.YtpohlhkgbmdieaaGreatDoor.Rk Go.Proofs.YtpohlhkgbmdieaaGreatDoor.Xb
theorem jA:dJ Tryz.prog=true:=by kernel_rfl
theorem zT:Tryz.prog.follows .mixedOrders=true:=by kernel_rfl
theorem NQ:im Tryz.prog 273 (tT (lK 1) (lK 2) (.agg [])):=(CG (k1':=qO 1) (k2':=qO 2) (v':= .agg #[]) (fun ρ=>(iL 1).mono (fun b r h=>by cases h)) (fun ρ=>(iL 2).mono (fun b r h=>by cases h)) (fun ρ=> .agg _ _ .nil) Xb.oB).Zx jA (by kernel_rfl)
theorem Te:im Tryz.prog 117 (zU [(117,2)]):=(FP uD sP).Zx jA (by kernel_rfl)
theorem CH:im Tryz.prog 103 km:=(uE Tryz.strings_IndexByte).Zx jA (by kernel_rfl)
theorem Tf:im Tryz.prog 150 zV:=(FQ Tryz.strings_Count_one).Zx jA (by kernel_rfl)
theorem Tg:im Tryz.prog 105 zW:=(FR Tryz.stringslite_Clone).Zx jA (by kernel_rfl)
theorem Th:im Tryz.prog 151 zX:=(FT Tryz.strings_Index_one).Zx jA (by kernel_rfl)
noncomputable def CJ:Rk.Told:=uG (uG (uG (uG (uG (uG (fun _=>none) 273 (tT (lK 1) (lK 2) (.agg []))) 103 km) 150 zV) 117 (zU [(117,2)])) 105 zW) 151 zX
theorem pC:jz Tryz.prog CJ:=((((((jz.none).add NQ).add CH).add Tf).add Te).add Tg).add Th
end
section
open Go Go.Proofs Go.Proofs.YtpohlhkgbmdieaaGreatDoor.Rk
def pD:sQ where
 f:=14
 args:=[(.str [108,101,116,32,120,32,61,32,64,80,73,68,45,49,32,43,32,34,98,34,59,32,115,101,116,32,64,80,73,68,45,50,32,61,32,117,112,112,101,114,40,120,41,59,32,114,111,117,116,101,32,34,100,34,59])]
 n0:=101
 old:=[]
 v:=(.tuple [(.slice 304 0 9 9 10),(.int .i64 0),(.int .i64 0),(.int .i64 0)])
 n1:=376
 new:=[(304,(.cells 258 [(.int .i64 0),(.int .i64 3),(.str []),(.int .i64 0),(.str []),(.int .i64 0),(.int .i64 0),(.int .i64 0),(.int .i64 0),(.int .i64 0),(.int .i64 4),(.int .i64 1),(.str [120]),(.int .i64 0),(.str []),(.int .i64 0),(.int .i64 0),(.int .i64 0),(.int .i64 0),(.int .i64 0),(.int .i64 21),(.int .i64 2),(.str []),(.int .i64 0),(.str []),(.int .i64 0),(.int .i64 0),(.int .i64 0),(.int .i64 0),(.int .i64 0),(.int .i64 11),(.int .i64 0),(.str []),(.int .i64 0),(.str [80,73,68]),(.int .i64 1),(.int .i64 1),(.int .i64 1),(.int .i64 1),(.int .i64 1),(.int .i64 7),(.int .i64 0),(.str [98]),(.int .i64 0),(.str []),(.int .i64 0),(.int .i64 0),(.int .i64 0),(.int .i64 0),(.int .i64 0),(.int .i64 2),(.int .i64 1),(.str []),(.int .i64 0),(.str [80,73,68]),(.int .i64 1),(.int .i64 2),(.int .i64 1),(.int .i64 1),(.int .i64 1),(.int .i64 23),(.int .i64 1),(.str [117,112,112,101,114]),(.int .i64 0),(.str []),(.int .i64 0),(.int .i64 0),(.int .i64 0),(.int .i64 0),(.int .i64 0),(.int .i64 12),(.int .i64 0),(.str [120]),(.int .i64 0),(.str []),(.int .i64 0),(.int .i64 0),(.int .i64 0),(.int .i64 0),(.int .i64 0),(.int .i64 5),(.int .i64 0),(.str [100]),(.int .i64 0),(.str []),(.int .i64 0),(.int .i64 0),(.int .i64 0),(.int .i64 0),(.int .i64 0)]))]
noncomputable def jab:Rk.Told:=CJ
theorem NR:pD.check (call Tryz.prog jab (rW Tryz.prog 100000) 100000 300 pD.f pD.args pD.start)=true:=by kernel_rfl
theorem Ti:im Tryz.prog pD.f (rX pD):=qQ jA zT pC 100000 300 pD NR
def pE:sQ where
 f:=7
 args:=[(.slice 304 0 9 9 10),(.agg [(.int .u8 124),(.int .u8 94),(.int .u8 126),(.int .u8 92),(.int .u8 38),(.slice 99 0 2 2 2)]),.iw,(.str []),(.int .i64 2000)]
 n0:=376
 old:=[⟨304,(.cells 258 [(.int .i64 0),(.int .i64 3),(.str []),(.int .i64 0),(.str []),(.int .i64 0),(.int .i64 0),(.int .i64 0),(.int .i64 0),(.int .i64 0),(.int .i64 4),(.int .i64 1),(.str [120]),(.int .i64 0),(.str []),(.int .i64 0),(.int .i64 0),(.int .i64 0),(.int .i64 0),(.int .i64 0),(.int .i64 21),(.int .i64 2),(.str []),(.int .i64 0),(.str []),(.int .i64 0),(.int .i64 0),(.int .i64 0),(.int .i64 0),(.int .i64 0),(.int .i64 11),(.int .i64 0),(.str []),(.int .i64 0),(.str [80,73,68]),(.int .i64 1),(.int .i64 1),(.int .i64 1),(.int .i64 1),(.int .i64 1),(.int .i64 7),(.int .i64 0),(.str [98]),(.int .i64 0),(.str []),(.int .i64 0),(.int .i64 0),(.int .i64 0),(.int .i64 0),(.int .i64 0),(.int .i64 2),(.int .i64 1),(.str []),(.int .i64 0),(.str [80,73,68]),(.int .i64 1),(.int .i64 2),(.int .i64 1),(.int .i64 1),(.int .i64 1),(.int .i64 23),(.int .i64 1),(.str [117,112,112,101,114]),(.int .i64 0),(.str []),(.int .i64 0),(.int .i64 0),(.int .i64 0),(.int .i64 0),(.int .i64 0),(.int .i64 12),(.int .i64 0),(.str [120]),(.int .i64 0),(.str []),(.int .i64 0),(.int .i64 0),(.int .i64 0),(.int .i64 0),(.int .i64 0),(.int .i64 5),(.int .i64 0),(.str [100]),(.int .i64 0),(.str []),(.int .i64 0),(.int .i64 0),(.int .i64 0),(.int .i64 0),(.int .i64 0)]),(.cells 258 [(.int .i64 0),(.int .i64 3),(.str []),(.int .i64 0),(.str []),(.int .i64 0),(.int .i64 0),(.int .i64 0),(.int .i64 0),(.int .i64 0),(.int .i64 4),(.int .i64 1),(.str [120]),(.int .i64 0),(.str []),(.int .i64 0),(.int .i64 0),(.int .i64 0),(.int .i64 0),(.int .i64 0),(.int .i64 21),(.int .i64 2),(.str []),(.int .i64 0),(.str []),(.int .i64 0),(.int .i64 0),(.int .i64 0),(.int .i64 0),(.int .i64 0),(.int .i64 11),(.int .i64 0),(.str []),(.int .i64 0),(.str [80,73,68]),(.int .i64 1),(.int .i64 1),(.int .i64 1),(.int .i64 1),(.int .i64 1),(.int .i64 7),(.int .i64 0),(.str [98]),(.int .i64 0),(.str []),(.int .i64 0),(.int .i64 0),(.int .i64 0),(.int .i64 0),(.int .i64 0),(.int .i64 2),(.int .i64 1),(.str []),(.int .i64 0),(.str [80,73,68]),(.int .i64 1),(.int .i64 2),(.int .i64 1),(.int .i64 1),(.int .i64 1),(.int .i64 23),(.int .i64 1),(.str [117,112,112,101,114]),(.int .i64 0),(.str []),(.int .i64 0),(.int .i64 0),(.int .i64 0),(.int .i64 0),(.int .i64 0),(.int .i64 12),(.int .i64 0),(.str [120]),(.int .i64 0),(.str []),(.int .i64 0),(.int .i64 0),(.int .i64 0),(.int .i64 0),(.int .i64 0),(.int .i64 5),(.int .i64 0),(.str [100]),(.int .i64 0),(.str []),(.int .i64 0),(.int .i64 0),(.int .i64 0),(.int .i64 0),(.int .i64 0)]),false⟩,
  ⟨91,(.cells 18 [(.str [97])]),(.cells 18 [(.str [97])]),false⟩,
  ⟨93,(.cells 62 [(.slice 91 0 1 1 1)]),(.cells 62 [(.slice 91 0 1 1 1)]),false⟩,
  ⟨95,(.cells 100 [(.slice 93 0 1 1 1)]),(.cells 100 [(.slice 93 0 1 1 1)]),false⟩,
  ⟨97,(.cells 98 [(.slice 95 0 1 1 1)]),(.cells 98 [(.slice 95 0 1 1 1)]),false⟩,
  ⟨99,(.cells 96 [(.str [77,83,72]),(.slice 85 0 2 2 1),(.str [80,73,68]),(.slice 97 0 1 1 1)]),(.cells 96 [(.str [77,83,72]),(.slice 85 0 2 2 1),(.str [80,73,68]),(.slice 97 0 1 1 1)]),false⟩,
  ⟨79,(.cells 18 [(.str [94,126,92,38])]),(.cells 18 [(.str [94,126,92,38])]),false⟩,
  ⟨81,(.cells 62 [(.slice 79 0 1 1 1)]),(.cells 62 [(.slice 79 0 1 1 1)]),false⟩,
  ⟨83,(.cells 100 [(.slice 81 0 1 1 1)]),(.cells 100 [(.slice 81 0 1 1 1)]),false⟩,
  ⟨85,(.cells 98 [(.slice 74 0 1 1 1),(.slice 83 0 1 1 1)]),(.cells 98 [(.slice 74 0 1 1 1),(.slice 83 0 1 1 1)]),false⟩,
  ⟨70,(.cells 18 [(.str [124])]),(.cells 18 [(.str [124])]),false⟩,
  ⟨72,(.cells 62 [(.slice 70 0 1 1 1)]),(.cells 62 [(.slice 70 0 1 1 1)]),false⟩,
  ⟨74,(.cells 100 [(.slice 72 0 1 1 1)]),(.cells 100 [(.slice 72 0 1 1 1)]),false⟩]
 v:=(.tuple [(.agg [(.int .u8 124),(.int .u8 94),(.int .u8 126),(.int .u8 92),(.int .u8 38),(.slice 832 0 2 2 2),(.slice 789 0 1 1 1),(.bool false),(.int .i64 0),(.str []),(.int .i64 0),(.bool false),(.int .i64 9)]),(.int .i64 0)])
 n1:=833
 new:=[(789,(.cells 18 [(.str [100])])),
  (796,(.cells 18 [(.str [124])])),
  (798,(.cells 62 [(.slice 796 0 1 1 1)])),
  (800,(.cells 100 [(.slice 798 0 1 1 1)])),
  (804,(.cells 18 [(.str [94,126,92,38])])),
  (806,(.cells 62 [(.slice 804 0 1 1 1)])),
  (808,(.cells 100 [(.slice 806 0 1 1 1)])),
  (810,(.cells 98 [(.slice 800 0 1 1 1),(.slice 808 0 1 1 1)])),
  (816,(.cells 18 [(.str [97])])),
  (818,(.cells 62 [(.slice 816 0 1 1 1)])),
  (820,(.cells 100 [(.slice 818 0 1 1 1)])),
  (824,(.cells 18 [(.str [65,66])])),
  (826,(.cells 62 [(.slice 824 0 1 1 1)])),
  (828,(.cells 100 [(.slice 826 0 1 1 1)])),
  (830,(.cells 98 [(.slice 820 0 1 1 1),(.slice 828 0 1 1 1)])),
  (832,(.cells 96 [(.str [77,83,72]),(.slice 810 0 2 2 1),(.str [80,73,68]),(.slice 830 0 2 2 1)]))]
noncomputable def jac:Rk.Told:=CJ
theorem NT:pE.check (call Tryz.prog jac (rW Tryz.prog 100000) 100000 300 pE.f pE.args pE.start)=true:=by kernel_rfl
theorem Tj:im Tryz.prog pE.f (rX pE):=qQ jA zT pC 100000 300 pE NT
def pF:sQ where
 f:=6
 args:=[]
 n0:=0
 old:=[]
 v:=(.bool true)
 n1:=946
 new:=[]
noncomputable def jad:Rk.Told:=(uG (uG CJ pD.f (rX pD)) pE.f (rX pE))
theorem NU:pF.check (call Tryz.prog jad (rW Tryz.prog 100000) 100000 300 pF.f pF.args pF.start)=true:=by kernel_rfl
theorem Tk:im Tryz.prog pF.f (rX pF):=qQ jA zT ((pC.add Ti).add Tj) 100000 300 pF NU
end
section
open Go Go.RowKit Go.Proofs Go.Proofs.YtpohlhkgbmdieaaGreatDoor.Rk
theorem Kh:zY (call Tryz.prog (uG CJ pF.f (rX pF)) (rW Tryz.prog 100000) 100000 300 6 [] ⟨.leaf,0,[]⟩)=true:=by kernel_rfl
theorem NV:∀w,Calls Tryz.prog 6 #[] w fun e w'=>e= .returned (.bool true)/\Below w.heap.size w w':=fun w=>
 CK jA zT (pC.add Tk) 100000 300 Kh #[] .nil w
end
section
open Go.RowKit
theorem az(a:Addr)(n:Nat):(a.add n).block=a.block:=by unfold Addr.add;split<;>rfl
theorem ko(a:Addr)(i j:Nat):(a.add i).add j=a.add (i+j):=by
 unfold Addr.add;by_cases hi:i=0<;>by_cases hj:j=0<;>simp[hi,hj,Nat.add_assoc]
theorem iO{w:World}{ad:Addr}{i:Nat}(j:Nat)(hj:0<j):w.cell? (ad.add (i+j))=w.cell? ⟨(ad.add i).block,(ad.add i).off+j,none⟩:=by
 rw[<-ko]
 conv=>lhs;rw[show(ad.add i).add j={(ad.add i) with off:=(ad.add i).off+j,spot:=none} from by rw[Addr.add,if_neg (by omega)]]
structure aU(α:Type) where
 n:Nat
 pos:0<n
 R:World->(Nat->Prop)->List Value->α->Prop
 len:∀{w S cs x},R w S cs x->cs.length=n
 keep:∀{w w' S S' cs x},R w S cs x->(∀b,S b->S' b)->(∀p:Addr,S p.block->w'.cell? p=w.cell? p)->R w' S' cs x
 one:∀{w S cs x},R w S cs x->∀u∈cs,u.oneCell'=true
def aU.flat{α:Type}(f:α->List Value)(n:Nat)(pos:0<n)(ok:α->Prop)(hl:∀x,(f x).length=n)(ho:∀x,∀u∈f x,u.oneCell'=true):aU α where
 n:=n
 pos:=pos
 R:=fun _ _ cs x=>cs=f x/\ok x
 len:=by rintro _ _ _ x ⟨rfl,_⟩;exact hl x
 keep:=fun h _ _=>h
 one:=by rintro _ _ _ x ⟨rfl,_⟩;exact ho x
def bn{α:Type}(E:aU α)(w:World)(S:Nat->Prop)(A:Option Addr)(m:Nat)(xs:List α):Prop:=
 xs.length=m/\(0<m->∃ad,A=some ad/\S ad.block/\∀j x,xs[j]? =some x->∃cs,E.R w S cs x/\∀i u,cs[i]? =some u->w.cell? (ad.add (j*E.n+i))=some u)
def bX(A:Option Addr)(m c:Nat):Prop:=(A=none->m=0/\c=0)/\m<=c/\m<=1048576/\c<=maxLen
def aU.list{α:Type}(E:aU α):aU (List α) where
 n:=1
 pos:=Nat.one_pos
 R:=fun w S cs xs=>∃A m c,cs=[.slice A m c]/\bX A m c/\bn E w S A m xs
 len:=by rintro _ _ _ _ ⟨A,m,c,rfl,_⟩;rfl
 keep:=by
  rintro w w' S S' _ xs ⟨A,m,c,rfl,aI,hl,h⟩ hS hc;refine⟨A,m,c,rfl,aI,hl,fun hm=> ?_⟩;obtain⟨ad,rfl,hb,he⟩:=h hm;refine⟨ad,rfl,hS _ hb,fun j x hx=> ?_⟩;obtain⟨cs,hr,hi⟩:=he j x hx;exact⟨cs,E.keep hr hS hc,fun i u hu=>(hc _ (by rw[az];exact hb)).trans (hi i u hu)⟩
 one:=by
  rintro _ _ _ _ ⟨A,m,c,rfl,_⟩ u hu;simp at hu;subst hu;rfl
def aU.pair{α β γ:Type}(E:aU α)(F:aU β)(f:γ->α)(g:γ->β):aU γ where
 n:=E.n+F.n
 pos:=by have:=E.pos;omega
 R:=fun w S cs x=>∃c1 c2,cs=c1++c2/\E.R w S c1 (f x)/\F.R w S c2 (g x)
 len:=by
  rintro _ _ _ _ ⟨c1,c2,rfl,h1,h2⟩;rw[List.length_append,E.len h1,F.len h2]
 keep:=by
  rintro _ _ _ _ _ _ ⟨c1,c2,rfl,h1,h2⟩ hS hc;exact⟨c1,c2,rfl,E.keep h1 hS hc,F.keep h2 hS hc⟩
 one:=by
  rintro _ _ _ _ ⟨c1,c2,rfl,h1,h2⟩ u hu;rcases List.mem_append.1 hu with h|h
  ·exact E.one h1 u h
  ·exact F.one h2 u h
def Old(w:World):Nat->Prop:=fun b=>b<w.heap.size
def New(w w':World):Nat->Prop:=fun b=>w.heap.size<=b/\b<w'.heap.size
section
variable {α:Type} {E:aU α} {w w' w'':World} {S S':Nat->Prop} {A:Option Addr} {m c:Nat} {xs:List α} {cs:List Value} {x:α} {v:Value}
theorem aU.below(h:E.R w S cs x)(hb:Below w.heap.size w w')(hS:∀b,S b->b<w.heap.size):E.R w' S cs x:=
 E.keep h (fun _ h=>h) (fun p hp=>hb.cell (hS _ hp))
theorem aU.dB{B:Nat}(h:E.R w S cs x)(hb:Below B w w')(hS:∀b,S b->b<B):E.R w' S cs x:=
 E.keep h (fun _ h=>h) (fun p hp=>hb.cell (hS _ hp))
theorem aU.wide(h:E.R w S cs x)(hS:∀b,S b->S' b):E.R w S' cs x:=E.keep h hS (fun _ _=>rfl)
theorem aU.old(h:E.R w (Old w) cs x)(hb:Below w.heap.size w w'):E.R w' (Old w') cs x:=
 E.keep h (fun _ h=>l_ h hb.size) (fun p hp=>hb.cell hp)
theorem bn.len(h:bn E w S A m xs):xs.length=m:=h.1
theorem bn.keep(h:bn E w S A m xs)(hS:∀b,S b->S' b)(hc:∀p:Addr,S p.block->w'.cell? p=w.cell? p):bn E w' S' A m xs:=by
 refine⟨h.1,fun hm=> ?_⟩;obtain⟨ad,rfl,hb,he⟩:=h.2 hm;refine⟨ad,rfl,hS _ hb,fun j x hx=> ?_⟩;obtain⟨cs,hr,hi⟩:=he j x hx;exact⟨cs,E.keep hr hS hc,fun i u hu=>(hc _ (by rw[az];exact hb)).trans (hi i u hu)⟩
theorem bn.below(h:bn E w S A m xs)(hb:Below w.heap.size w w')(hS:∀b,S b->b<w.heap.size):bn E w' S A m xs:=
 h.keep (fun _ h=>h) (fun p hp=>hb.cell (hS _ hp))
theorem bn.dB{B:Nat}(h:bn E w S A m xs)(hb:Below B w w')(hS:∀b,S b->b<B):bn E w' S A m xs:=
 h.keep (fun _ h=>h) (fun p hp=>hb.cell (hS _ hp))
theorem bn.wide(h:bn E w S A m xs)(hS:∀b,S b->S' b):bn E w S' A m xs:=h.keep hS (fun _ _=>rfl)
theorem bn.NY{k:Nat}(h:bn E w S A m xs)(hk:k<m):∃ad x cs,A=some ad/\S ad.block/\xs[k]? =some x/\E.R w S cs x/\∀i u,cs[i]? =some u->w.cell? (ad.add (k*E.n+i))=some u:=by
 obtain⟨hl,h⟩:=h;obtain⟨ad,rfl,hb,he⟩:=h (by omega);have hx:xs[k]? =some (xs[k]'(by omega)):=e_ (by omega);obtain⟨cs,hr,hi⟩:=he k _ hx;exact⟨ad,_,cs,rfl,hb,hx,hr,hi⟩
theorem bn.nil:bn E w S A 0 []:=⟨rfl,fun h=>absurd h (by omega)⟩
theorem bX.none:bX none 0 0:=⟨fun _=>⟨rfl,rfl⟩,n_,by omega,by unfold maxLen;omega⟩
theorem aU.fu:E.list.R w S [.slice none 0 0] []:=⟨none,0,0,rfl,bX.none,bn.nil⟩
theorem bX.le(h:bX A m c):m<=1048576:=h.2.2.1
theorem bX.cap(h:bX A m c):m<=c:=h.2.1
theorem aU.zZ(h:bn E w S A m xs)(aI:bX A m c):E.list.R w S [.slice A m c] xs:=⟨A,m,c,rfl,aI,h⟩
theorem aU.av(h:E.list.R w S [v] xs):∃A c,v= .slice A xs.length c/\bX A xs.length c/\bn E w S A xs.length xs:=by
 obtain⟨A,m,c,e,aI,hl⟩:=h;have hm:=hl.1;subst hm;simp at e;exact⟨A,c,e,aI,hl⟩
end
structure aD{α:Type}(E:aU α)(T:TypeId)(w:World)(B:Nat)(S:Nat->Prop)(v:Value)(xs:List α):Prop where
 row:∃cs,w.ownsRow B T E.n v xs.length cs/\∀j x,xs[j]? =some x->∃es,E.R w S es x/\∀i u,es[i]? =some u->cs[j*E.n+i]? =some u
 apart:∀g,v.ownBlock=some g->¬S g
 there:∀b,S b->b<w.heap.size
section
variable {α:Type} {E:aU α} {T:TypeId} {w w' w'':World} {S S':Nat->Prop} {A:Option Addr} {B m c:Nat} {xs:List α} {cs:List Value} {x:α} {v:Value}
theorem aD.nil(hS:∀b,S b->b<w.heap.size):aD E T w B S (.slice none 0 0) []:=
 ⟨⟨[],⟨by simp,.inl ⟨rfl,rfl⟩⟩,fun j x h=>by simp at h⟩,fun g h=>by simp[Value.ownBlock] at h,hS⟩
theorem aD.aJ(h:aD E T w B S v xs){g:Nat}(hg:v.ownBlock=some g):B<=g/\g<w.heap.size:=by
 obtain⟨cs,ho,_⟩:=h.row;have:=World.ownsRow.lt ho g hg;exact this
theorem rY{n size:Nat}(h:w.ownsRow B T size v n cs)(hb:∀g,v.ownBlock=some g->w'.heap[g]? =w.heap[g]?):w'.ownsRow B T size v n cs:=by
 refine⟨h.1,?_⟩;rcases h.2 with h2|⟨g,cap,cur,rfl,hB,hh,r⟩
 ·exact .inl h2
 ·exact .inr ⟨g,cap,cur,rfl,hB,(hb g rfl).trans hh,r⟩
theorem aD.stay(h:aD E T w B S v xs)(hs:w.heap.size<=w'.heap.size)(hb:∀b,b<w.heap.size->(S b\/v.ownBlock=some b)->w'.heap[b]? =w.heap[b]?):aD E T w' B S v xs:=by
 obtain⟨cs,ho,he⟩:=h.row;refine⟨⟨cs,rY ho (fun g hg=>hb g (World.ownsRow.lt ho g hg).2 (.inr hg)),fun j x hx=> ?_⟩,h.apart,fun b hb'=>l_ (h.there b hb') hs⟩;obtain⟨es,hr,hi⟩:=he j x hx;exact⟨es,E.keep hr (fun _ h=>h) (fun p hp=>World.cell?_of_block (hb _ (h.there _ hp) (.inl hp))),hi⟩
theorem aD.below(h:aD E T w B S v xs)(hb:Below w.heap.size w w'):aD E T w' B S v xs:=
 h.stay hb.size (fun b hb' _=>hb.block b hb')
theorem aD.alloc(h:aD E T w B S v xs)(o:Obj):aD E T (w.alloc o) B S v xs:=h.below ((Below.refl _ _).alloc (n_) o)
theorem aD.wide(h:aD E T w B S v xs)(hS:∀b,S b->S' b)(ha:∀g,v.ownBlock=some g->¬S' g)(ht:∀b,S' b->b<w.heap.size):aD E T w B S' v xs:=by
 obtain⟨cs,ho,he⟩:=h.row;refine⟨⟨cs,ho,fun j x hx=> ?_⟩,ha,ht⟩;obtain⟨es,hr,hi⟩:=he j x hx;exact⟨es,aU.wide hr hS,hi⟩
theorem aD.FU(h:aD E T w B S (.slice A m c) xs):xs.length=m:=by
 obtain⟨cs,ho,_⟩:=h.row;rcases ho.2 with⟨h1,h2⟩|⟨g,cap,cur,hv,_⟩
 ·injection h1 with _ e _
  omega
 ·injection hv with _ e _
  omega
theorem aD.reads(h:aD E T w B S v xs)(hS:∀b,S b->S' b)(hv:∀g,v.ownBlock=some g->S' g)(hm:xs.length<=1048576):E.list.R w S' [v] xs:=by
 obtain⟨cs,ho,he⟩:=h.row;rcases ho.2 with⟨rfl,h2⟩|⟨g,cap,cur,rfl,hB,hh,Xd,hcm,hcs,CM⟩
 ·rw[List.eq_nil_of_length_eq_zero h2]
  exact aU.fu
 ·refine⟨_,_,_,rfl,⟨(fun h=>by cases h),Xd,hm,hcm⟩,rfl,fun _=>⟨_,rfl,hv g rfl,fun j x hx=> ?_⟩⟩
  obtain⟨es,hr,hi⟩:=he j x hx;refine⟨es,aU.wide hr hS,fun i u hu=> ?_⟩;exact World.ownsRow.cells ho (g:=g) rfl _ _ (hi i u hu)
theorem ay{P:Program}{ops:Array Oper}{rest:List Oper}{o:Oper}{a:Act}{Q:Exit->Act->World->Prop}(hgd:o.guard=none)(s x:Operand)(t:TypeId)(ho:o.op= .call {callee:= .builtin .append,args:=#[s,x],argTypes:=#[t,t]})(i:TypeInfo)(z:Value)(bytes:Nat)(ht:P.underlying t=some (.slice T))(hi:P.info? T=some i)(hz:i.zero=some z)(hsize:i.size=E.n)(hby:i.bytes=bytes)(hzs:z.cells.size=E.n)(hs:a.eval s=v)(hown:aD E T w B S v xs)(ad:Addr)(m c:Nat)(ys:List α)(hx:a.eval x= .slice (some ad) m c)(hl:ys.length=m)(hnews:∀j y,ys[j]? =some y->∃es,E.R w S es y/\∀i u,es[i]? =some u->w.cell? (ad.add (j*E.n+i))=some u)(h63:xs.length+m<=1099511627776)(hbytes:bytes<=128)(hbase:B<=w.heap.size)(h:∀v' w',aD E T w' B S v' (xs++ys)->Below B w w'->w.grownBy w' v.ownBlock->(v'.ownBlock=v.ownBlock\/v'.ownBlock=some w.heap.size)->wpList P ops Q rest (a.put o.dst v') w'):wpList P ops Q (o::rest) a w:=by
 obtain⟨cs,hr,he⟩:=hown.row
 have Ae:∃ns:List Value,ns.length=m*E.n/\(∀u∈ns,u.oneCell'=true)/\(∀j u,ns[j]? =some u->w.cell? (ad.add j)=some u)/\∀j y,ys[j]? =some y->∃es,E.R w S es y/\∀i u,es[i]? =some u->ns[j*E.n+i]? =some u:=by
  have key:∀k,k<=m->∃ns:List Value,ns.length=k*E.n/\(∀u∈ns,u.oneCell'=true)/\(∀j u,ns[j]? =some u->w.cell? (ad.add j)=some u)/\∀j y,j<k->ys[j]? =some y->∃es,E.R w S es y/\∀i u,es[i]? =some u->ns[j*E.n+i]? =some u:=by
   intro k
   induction k with
   |zero=>exact fun _=>⟨[],by simp,by simp,by simp,fun j y hj=>by omega⟩
   |succ k ih=>
    intro hk;obtain⟨ns,h1,h2,h3,h4⟩:=ih (by omega);have hy:ys[k]? =some (ys[k]'(by omega)):=e_ (by omega);obtain⟨es,Cm,hce⟩:=hnews k _ hy;have CN:=E.len Cm;refine⟨ns++es,by rw[List.length_append,h1,CN,Nat.add_mul];omega,fun u hu=> ?_,fun j u hu=> ?_,fun j y hj hyj=> ?_⟩
    ·rcases List.mem_append.1 hu with h|h
     ·exact h2 u h
     ·exact E.one Cm u h
    ·rcases Nat.lt_or_ge j ns.length with hj|hj
     ·rw[List.getElem?_append_left hj] at hu
      exact h3 j u hu
     ·rw[List.getElem?_append_right hj] at hu
      have:=hce _ u hu;rw[h1] at hj this
      rwa [show k*E.n+(j-k*E.n)=j from by omega] at this
    ·rcases Nat.lt_or_ge j k with hj'|hj'
     ·obtain⟨es',nL,hc'⟩:=h4 j y hj' hyj
      refine⟨es',nL,fun i u hu=> ?_⟩
      have hi':i<E.n:=by
       have:=(g_ hu).1
       rwa [E.len nL] at this
      have:j*E.n+i<ns.length:=by
       rw[h1];have h5:(j+1)*E.n<=k*E.n:=Nat.mul_le_mul_right _ hj';rw[Nat.add_mul] at h5;omega
      rw[List.getElem?_append_left this];exact hc' i u hu
     ·have:j=k:=by omega
      subst this;rw[hy] at hyj;cases hyj;refine⟨es,Cm,fun i u hu=> ?_⟩;rw[List.getElem?_append_right (by rw[h1];omega),h1,show j*E.n+i-j*E.n=i from by omega];exact hu
  obtain⟨ns,h1,h2,h3,h4⟩:=key m (n_);exact⟨ns,h1,h2,h3,fun j y hy=>h4 j y (by have:=(g_ hy).1;omega) hy⟩
 obtain⟨ns,uH,hn2,hn3,hn4⟩:=Ae;have lH:=hr.1;refine wpList_append_own_at w hgd s x t ho B T i z E.n bytes ht hi hz hsize hby hzs E.pos v xs.length cs hs hr ad m c ns hx uH hn3 hn2 (by unfold maxLen;omega) ?_ hbase ?_
 ·have h1:(xs.length+m)*bytes<=1099511627776*128:=Nat.mul_le_mul h63 hbytes
  omega
 intro v' w' hown' hg _ NZ;have hblk:∀b,S b->w'.heap[b]? =w.heap[b]? :=fun b hb=>hg.block b (hown.there b hb) (fun e=>hown.apart b e.symm hb);refine h v' w' ⟨⟨cs++ns,?_,fun j y hy=> ?_⟩,fun g oC=> ?_,fun b hb=>l_ (hown.there b hb) hg.size⟩ ((Below.refl _ _).grown hg hbase (fun k hk=>(World.ownsRow.lt hr k hk).1)) hg NZ
 ·rw[List.length_append,hl]
  exact hown'
 ·rcases Nat.lt_or_ge j xs.length with hj|hj
  ·rw[List.getElem?_append_left hj] at hy
   obtain⟨es,Cm,hce⟩:=he j y hy;refine⟨es,E.keep Cm (fun _ h=>h) (fun p hp=>World.cell?_of_block (hblk _ hp)),fun i u hu=> ?_⟩;have:=hce i u hu;rw[List.getElem?_append_left (g_ this).1];exact this
  ·rw[List.getElem?_append_right hj] at hy
   obtain⟨es,Cm,hce⟩:=hn4 _ y hy;refine⟨es,E.keep Cm (fun _ h=>h) (fun p hp=>World.cell?_of_block (hblk _ hp)),fun i u hu=> ?_⟩;have:=hce i u hu;rw[List.getElem?_append_right (by rw[lH];have:xs.length*E.n<=j*E.n:=Nat.mul_le_mul_right _ hj;omega),lH,show j*E.n+i-xs.length*E.n=(j-xs.length)*E.n+i from by rw[Nat.sub_mul];have:xs.length*E.n<=j*E.n:=Nat.mul_le_mul_right _ hj;omega];exact this
 ·rcases NZ with e|e
  ·exact hown.apart g (e▸oC)
  ·rw[e] at oC
   cases oC;intro hb;exact absurd (hown.there _ hb) (by omega)
theorem cH{cs:List Value}{T':TypeId}(hr:E.R w S cs x)(ht:∀b,S b->b<w.heap.size):∀j y,[x][j]? =some y->∃es,E.R (w.alloc (.cells cs.toArray T')) S es y/\∀i u,es[i]? =some u->(w.alloc (.cells cs.toArray T')).cell? ((⟨w.heap.size,0,none⟩:Addr).add (j*E.n+i))=some u:=by
 intro j y hy
 have hj:j=0:=by
  have:=(g_ hy).1;simp at this;exact this
 subst hj;simp at hy;subst hy;refine⟨cs,E.keep hr (fun _ h=>h) (fun p hp=>World.cell?_alloc_lt w _ p (ht _ hp)),fun i u hu=> ?_⟩;rw[Addr.add_lit,Nat.zero_mul,Nat.zero_add,Nat.zero_add,(ar.new w T' cs.toArray).cell];simpa using hu
end
def lenOf:Value->Nat
 | .slice _ n _=>n
 |_=>0
def Enters(P:Program)(f:FuncId):Prop:=∀args w,(callFunc f args).run P w= .ok (.enter f args) w
def gX{β:Type}(F:aU β)(w:World)(y:β)(e:Ending)(w':World):Prop:=∃v,e= .returned v/\F.R w' (New w w') [v] y/\Below w.heap.size w w'
section
variable {α:Type} {E:aU α} {T:TypeId} {w w' w'':World} {S S':Nat->Prop} {A:Option Addr} {B m c:Nat} {xs:List α} {cs:List Value} {x:α} {v:Value}
theorem one_cell{l:List Value}(h:l.length=1):∃u,l=[u]:=by
 match l,h with
 |[u],_=>exact⟨u,rfl⟩
theorem bn.in1{k:Nat}(hE:E.n=1)(h:bn E w S A m xs)(hk:k<m):∃ad x u,A=some ad/\S ad.block/\xs[k]? =some x/\E.R w S [u] x/\w.cell? (ad.add k)=some u:=by
 obtain⟨ad,x,cs,rfl,hb,hx,hr,hc⟩:=h.NY hk;obtain⟨u,rfl⟩:=one_cell ((E.len hr).trans hE);refine⟨ad,x,u,rfl,hb,hx,hr,?_⟩;have:=hc 0 u rfl
 rwa [hE,Nat.mul_one,Nat.add_zero] at this
theorem aD.in1{k:Nat}(hE:E.n=1)(h:aD E T w B S v xs)(hk:k<xs.length):∃g cap x u,v= .slice (some ⟨g,0,none⟩) xs.length cap/\xs[k]? =some x/\E.R w S [u] x/\w.cell? ⟨g,k,none⟩=some u/\xs.length<=cap/\cap<=maxLen:=by
 obtain⟨cs,ho,he⟩:=h.row;have hx:xs[k]? =some xs[k]:=e_ hk;obtain⟨es,hr,hi⟩:=he k _ hx;obtain⟨u,rfl⟩:=one_cell ((E.len hr).trans hE);have hu:=hi 0 u rfl;rw[hE,Nat.mul_one,Nat.add_zero] at hu;have lH:=ho;rcases ho.2 with⟨rfl,h2⟩|⟨g,cap,cur,rfl,hB,hh,Xd,hcm,hcs,CM⟩
 ·omega
 ·refine⟨g,cap,_,u,rfl,hx,hr,?_,Xd,hcm⟩
  have:=World.ownsRow.cells lH (g:=g) rfl _ _ hu
  rwa [Addr.add_lit,Nat.zero_add] at this
theorem aD.form(h:aD E T w B S v xs):(v= .slice none 0 0/\xs=[])\/∃g cap,v= .slice (some ⟨g,0,none⟩) xs.length cap/\B<=g/\g<w.heap.size/\xs.length<=cap/\cap<=maxLen:=by
 obtain⟨cs,ho,he⟩:=h.row;rcases ho.2 with⟨rfl,h2⟩|⟨g,cap,cur,rfl,hB,hh,Xd,hcm,hcs,CM⟩
 ·exact .inl ⟨rfl,List.eq_nil_of_length_eq_zero h2⟩
 ·refine .inr ⟨g,cap,rfl,hB,?_,Xd,hcm⟩
  rcases Nat.lt_or_ge g w.heap.size with h|h
  ·exact h
  ·rw[Array.getElem?_eq_none h] at hh;cases hh
theorem aD.take(h:aD E T w B S (.slice A m c) xs)(n:Nat)(hn:n<=m):aD E T w B S (.slice A n c) (xs.take n):=by
 have hlen:=h.FU;obtain⟨cs,ho,he⟩:=h.row;have hl:(xs.take n).length=n:=by rw[List.length_take];omega
 refine⟨⟨cs.take (n*E.n),⟨by rw[List.length_take,ho.1,hl];exact Nat.min_eq_left (Nat.mul_le_mul_right _ (by omega)),?_⟩,fun j y hy=> ?_⟩,fun g hg=>h.apart g ?_,h.there⟩
 ·rcases ho.2 with⟨h1,h2⟩|⟨g,cap,cur,hv,hB,hh,Xd,hcm,hcs,CM⟩
  ·injection h1 with h3 h4 h5
   subst h3 h4 h5;exact .inl ⟨by rw[show n=0 by omega],by rw[hl];omega⟩
  ·injection hv with h3 h4 h5
   subst h3 h5;refine .inr ⟨g,c,cur,by rw[hl],hB,hh,by rw[hl];omega,hcm,hcs,?_⟩;rw[hl,<-CM,List.take_take,Nat.min_eq_left (Nat.mul_le_mul_right _ (by omega))]
 ·have hj:j<n:=by have:=(g_ hy).1;omega
  rw[List.getElem?_take_of_lt hj] at hy;obtain⟨es,hr,hi⟩:=he j y hy;refine⟨es,hr,fun i u hu=> ?_⟩
  have hi':i<E.n:=by
   have:=(g_ hu).1
   rwa [E.len hr] at this
  rw[List.getElem?_take_of_lt]
  ·exact hi i u hu
  ·have h5:(j+1)*E.n<=n*E.n:=Nat.mul_le_mul_right _ hj
   rw[Nat.add_mul] at h5;omega
 ·cases A with
  |none=>simp[Value.ownBlock] at hg
  |some a=>simpa[Value.ownBlock] using hg
end
end
end Go.Proofs.YtpohlhkgbmdieaaGreatDoor
namespace Go.Proofs.YtpohlhkgbmdieaaGreatDoor.P
variable{L:List UInt8}{i:Nat}
def ones:Nat:=4294967295
def add(a b:Int):Int:=if max a 0>9223372036854775807-max b 0 then 9223372036854775807 else max a 0+max b 0
def bP(fuel n:Nat):List UInt8:=match fuel with
 |0=>[]
 |f+1=>(if n/10=0 then[] else bP f (n/10))++[UInt8.ofNat (48+n%10)]
def digits(v:Int):List UInt8:=(if v<0 then[45] else[])++bP 20 v.natAbs
theorem iP(f:Nat):∀n k:Nat,1<=k->n<10^k->(bP f n).length<=k:=by
 induction f with
 |zero=>intro n k _ _;simp[bP]
 |succ f ih=>
  intro n k hk hn;unfold bP;split
  ·simp;omega
  ·rename_i h
   have hk2:2<=k:=by
    rcases Nat.lt_or_ge k 2 with h2|h2
    ·have:k=1:=by omega
     subst this;omega
    ·exact h2
   have h3:n/10<10^(k-1):=by
    rw[Nat.div_lt_iff_lt_mul (by omega),<-Nat.pow_succ,show(k-1).succ=k from by omega];exact hn
   have:=ih (n/10) (k-1) (by omega) h3;simp;omega
def may(c:UInt8):Bool:=decide (33<=c.toNat/\c.toNat<=126/\¬(97<=c.toNat/\c.toNat<=122)/\¬(65<=c.toNat/\c.toNat<=90)/\¬(48<=c.toNat/\c.toNat<=57))
def Ki(L:List UInt8)(i:Nat):Prop:=∀a,a<i->may (L.getD a 0)=true/\∀b,b<a->L.getD b 0≠L.getD a 0
instance (L:List UInt8) (i:Nat):Decidable (Ki L i):=by unfold Ki;infer_instance
def valid(L:List UInt8):Bool:=decide (Ki L 5)
def dflt:List UInt8:=[124,94,126,92,38]
theorem FX:valid dflt=true:=by decide
theorem Kj(h:Ki L i)(hm:may (L.getD i 0)=true)(hd:∀b,b<i->L.getD b 0≠L.getD i 0):Ki L (i+1):=by
 intro a ha;rcases Nat.lt_or_ge a i with h1|h1
 ·exact h a h1
 ·have:a=i:=by omega
  subst this;exact⟨hm,hd⟩
theorem Tl(hi:i<5)(hm:may (L.getD i 0)=false):valid L=false:=by
 apply decide_eq_false;intro h;have:=(h i hi).1;rw[hm] at this;cases this
theorem Kk{b:Nat}(hi:i<5)(hb:b<i)(h:L.getD b 0=L.getD i 0):valid L=false:=by
 apply decide_eq_false;intro h2;exact(h2 i hi).2 b hb h
def hd(n:Nat):UInt8:=UInt8.ofNat (if n<10 then 48+n else 87+n)
def jbJ(b:UInt8):List UInt8:=[hd (b.toNat/16),hd (b.toNat%16)]
def hex(l:List UInt8):List UInt8:=l.flatMap jbJ
def letter(f c r e s b:UInt8):UInt8:=if b=f then 70 else if b=c then 83 else if b=s then 84 else if b=r then 82 else if b=e then 69 else 0
def cut(e:UInt8):List UInt8->Option (List UInt8×List UInt8)
 |[]=>none
 |b::t=>if b=e then some ([],t) else(cut e t).map fun p=>(b::p.1,p.2)
section
variable {f c r e s:UInt8}
end
structure Sound(f c r e s:UInt8):Prop where
 mf:may f=true
 mc:may c=true
 mr:may r=true
 me:may e=true
 ms:may s=true
 fc:f≠c
 fr:f≠r
 fe:f≠e
 fs:f≠s
 cr:c≠r
 ce:c≠e
 cs:c≠s
 re:r≠e
 rs:r≠s
 es:e≠s
theorem N0{α:Type}{m:List α->Prop}(h0:m [])(h1:∀l a,m l->m (l++[a]))(l:List α):m l:=by
 have:∀r:List α,m r.reverse:=by
  intro r
  induction r with
  |nil=>exact h0
  |cons a r ih=>rw[List.reverse_cons];exact h1 _ _ ih
 simpa using this l.reverse
def digit(b:UInt8):Bool:=decide (48<=b.toNat/\b.toNat<=57)
def sR(l:List UInt8):Nat:=l.foldl (fun v b=>10*v+(b.toNat-48)) 0
theorem x7(l:List UInt8)(b:UInt8):sR (l++[b])=10*sR l+(b.toNat-48):=by simp[sR,List.foldl_append]
theorem Tm(l:List UInt8)(h:∀b∈l,digit b=true):sR l<10^l.length:=by
 refine N0 (m:=fun l=>(∀b∈l,digit b=true)->sR l<10^l.length) (by simp[sR]) ?_ l h
 ·intro l b ih h
  rw[x7,List.length_append,List.length_singleton,Nat.pow_succ];have h1:=ih fun x hx=>h x (by simp[hx]);have h2:=h b (by simp);simp[digit] at h2;omega
def ew(l:List UInt8):Bool:=
 decide (1<=l.length/\l.length<=10/\¬(1<l.length/\l.head? =some 48))&&l.all digit&&decide (sR l<=2147483647)
def lL(l:List UInt8):Int:=if ew l=true then(sR l:Int) else 0
def uI(l:List UInt8):Int:=if ew l=true then 0 else 11
abbrev cmp:=Lib.compareBytes
end Go.Proofs.YtpohlhkgbmdieaaGreatDoor.P
namespace Go.Proofs.YtpohlhkgbmdieaaGreatDoor
namespace M
structure bR where
 f:UInt8
 c:UInt8
 r:UInt8
 e:UInt8
 s:UInt8
deriving DecidableEq
structure Seg where
 name:ByteArray
 fields:List (List (List (List ByteArray)))
structure dQ where
 d:bR
 aH:List Seg
structure Path where
 aN:ByteArray
 aP:Int
 aR:Int
 rep:Int
 comp:Int
 sub:Int
structure Node where
 op:Int
 n:Int
 text:ByteArray
 num:Int
 path:Path
structure Val where
 kind:Int
 text:ByteArray
 num:Int
 truth:Bool
structure Table where
 name:ByteArray
 entries:List (ByteArray×ByteArray)
def T(l:List UInt8):ByteArray:=⟨l.toArray⟩
def bJ(a b:ByteArray):Bool:=a.data.toList==b.data.toList
def bR.list(d:bR):List UInt8:=[d.f,d.c,d.r,d.e,d.s]
def x6:ByteArray:=T [77,83,72]
def upper(b:UInt8):Bool:=decide (65<=b.toNat/\b.toNat<=90)
def nameB(b:UInt8):Bool:=decide (65<=b.toNat/\b.toNat<=90)||decide (48<=b.toNat/\b.toNat<=57)
def isName(s:ByteArray):Bool:=decide (s.data.toList.length=3)&&upper (s.data.toList.getD 0 0)&&s.data.toList.all nameB
def bw{β:Type}(empty:β->Bool)(l:List β):List β:=(l.reverse.dropWhile empty).reverse
theorem cI{β:Type}(em:β->Bool)(l:List β)(x:β):bw em (l++[x])=if em x=true then bw em l else l++[x]:=by
 unfold bw;rw[List.reverse_append,List.reverse_singleton,List.singleton_append,List.dropWhile_cons];by_cases h:em x=true
 ·rw[if_pos h,if_pos h]
 ·rw[if_neg h,if_neg h]
  simp
def FY(c:List ByteArray):List ByteArray:=bw (fun v=>v.data.toList.isEmpty) c
def FZ(r:List (List ByteArray)):List (List ByteArray):=bw List.isEmpty (r.map FY)
def Ag(f:List (List (List ByteArray))):List (List (List ByteArray)):=bw List.isEmpty (f.map FZ)
def eO(s:Seg):Seg:={s with fields:=bw List.isEmpty (s.fields.map Ag)}
def canon(m:dQ):dQ:={m with aH:=m.aH.map eO}
def fits(s:Seg):Bool:=decide (s.fields.length<=100)&&s.fields.all fun f=>decide (f.length<=50)&&f.all fun r=>decide (r.length<=50)&&r.all fun c=>decide (c.length<=50)
def fN(f:List (List (List ByteArray)))(v:ByteArray):Bool:=match f with
 |[[[x]]]=>bJ x v
 |_=>false
def uJ(d:bR):ByteArray:=T [d.f]
def uK(d:bR):ByteArray:=T [d.c,d.r,d.e,d.s]
def lM(i:Nat)(s:Seg):Bool:=isName s.name&&(bJ s.name x6==decide (i=0))&&fits s
def valid(m:dQ):Bool:=P.valid m.d.list&&decide (1<=m.aH.length)&&decide (m.aH.length<=200)&&(m.aH.zipIdx.all fun(s,i)=>lM i s)&&
 match m.aH with
 |s::_=>match s.fields with
  |a::b::_=>fN a (uJ m.d)&&fN b (uK m.d)
  |_=>false
 |[]=>false
def at_(name:ByteArray):List Seg->Int->Int->Int
 |[],_,_=> -1
 |s::l,aP,i=>if bJ s.name name=true then(if aP=1 then i else at_ name l (aP-1) (i+1)) else at_ name l aP (i+1)
def at0(aH:List Seg)(name:ByteArray)(aP:Int):Int:=at_ name aH aP 0
def nth{β:Type}(none:β)(l:List β)(n:Int):β:=if n<1 then none else l.getD (n.toNat-1) none
def CO(n:Int):Bool:=decide (1<=n/\n<=200)
def bM(p:Path):Bool:=isName p.aN&&CO p.aP&&(decide (p.aR=0/\p.rep=0/\p.comp=0/\p.sub=0)||(CO p.aR&&CO p.rep&&CO p.comp&&CO p.sub))
def get(m:dQ)(p:Path):ByteArray:=
 let i:=at0 m.aH p.aN p.aP
 if bM p=true/\p.aR≠0/\0<=i then
  nth ByteArray.empty (nth [] (nth [] (nth [] (match m.aH[i.toNat]?with|some s=>s.fields|none=>[]) p.aR) p.rep) p.comp) p.sub
 else ByteArray.empty
def has(m:dQ)(p:Path):Bool:=bM p&&if p.aR=0 then decide (0<=at0 m.aH p.aN p.aP) else !(get m p).data.toList.isEmpty
def count(m:dQ)(name:ByteArray):Nat:=(m.aH.filter fun s=>bJ s.name name).length
def may(p:Path)(whole:Bool):Bool:=bM p&& !(bJ p.aN x6&&(decide (p.aR=1)||decide (p.aR=2)||decide (1<p.aP)))&&(decide (0<p.aR)||whole&& !bJ p.aN x6)
def asked(m:dQ)(p:Path)(whole:Bool):Int:=if valid m=false then 51 else if may p whole=false then 60 else 0
def with_{β:Type}(none:β)(l:List β)(n:Nat)(f:β->β):List β:=(l++List.replicate (n-l.length) none).modify (n-1) f
def xn(fields:List (List (List (List ByteArray))))(p:Path)(v:ByteArray):List (List (List (List ByteArray))):=
 with_ [] fields p.aR.toNat fun f=>with_ [] f p.rep.toNat fun r=>with_ [] r p.comp.toNat fun c=>with_ ByteArray.empty c p.sub.toNat fun _=>v
def kp(p:Path)(v:ByteArray)(s:Seg):Seg:={s with fields:=xn s.fields p v}
def lx(m:dQ)(p:Path):Int:=
 let e:=asked m p false
 if e≠0 then e
 else if 100<p.aR\/50<p.rep\/50<p.comp\/50<p.sub then 2
 else if(count m p.aN:Int)+1<p.aP then 3
 else if p.aP=(count m p.aN:Int)+1/\200<=m.aH.length then 2
 else 0
def grown(m:dQ)(p:Path):List Seg:=if p.aP=(count m p.aN:Int)+1 then m.aH++[{name:=p.aN,fields:=[]}] else m.aH
def uL(m:dQ)(p:Path)(v:ByteArray):dQ:=canon {d:=m.d,aH:=(grown m p).modify (at0 (grown m p) p.aN p.aP).toNat (kp p v)}
def qR(m:dQ)(p:Path):dQ:=
 let i:=at0 m.aH p.aN p.aP
 canon {d:=m.d,aH:=if i<0 then m.aH else if p.aR=0 then m.aH.eraseIdx i.toNat else if(get m p).data.toList.isEmpty=true then m.aH else m.aH.modify i.toNat (kp p ByteArray.empty)}
end M
namespace M
inductive Tree where
 |mk (x:Node) (kids:List Tree)
def Tree.x:Tree->Node| .mk x _=>x
def Tree.kids:Tree->List Tree| .mk _ ks=>ks
mutual
def flat:Tree->List Node
 | .mk x ks=>x::bB ks
def bB:List Tree->List Node
 |[]=>[]
 |t::l=>flat t++bB l
end
def lN:Path:=⟨ByteArray.empty,0,0,0,0,0⟩
def Ah(s:ByteArray):Bool:=s.data.toList.isEmpty
def Ai(p:Path):Bool:=Ah p.aN&&decide (p.aP=0/\p.aR=0/\p.rep=0/\p.comp=0/\p.sub=0)
def tU(b:UInt8):Bool:=decide (97<=b.toNat/\b.toNat<=122)||decide (65<=b.toNat/\b.toNat<=90)
def Xe(b:UInt8):Bool:=decide (48<=b.toNat/\b.toNat<=57)
def tV(b:UInt8):Bool:=tU b||Xe b||decide (b.toNat=95)
def ng(s:ByteArray):Bool:= !Ah s&&decide (s.data.toList.length<=32)&&tU (s.data.toList.getD 0 0)&&s.data.toList.all tV
def wIf:ByteArray:=T [105,102]
def jae:ByteArray:=T [101,108,115,101]
def jbK:ByteArray:=T [115,101,116]
def Tp:ByteArray:=T [100,101,108,101,116,101]
def jbL:ByteArray:=T [108,101,116]
def Xf:ByteArray:=T [114,111,117,116,101]
def jaf:ByteArray:=T [115,116,111,112]
def wOr:ByteArray:=T [111,114]
def jbM:ByteArray:=T [97,110,100]
def jbN:ByteArray:=T [110,111,116]
def jag:ByteArray:=T [116,114,117,101]
def Xg:ByteArray:=T [102,97,108,115,101]
def reserved:List ByteArray:=[wIf,jae,jbK,Tp,jbL,Xf,jaf,wOr,jbM,jbN,jag,Xg]
def fo(l:List ByteArray)(x:ByteArray):Bool:=l.any fun s=>bJ x s
def lO(s:ByteArray):Bool:=ng s&& !fo reserved s
def b7(op:Int):Int:=if op=0 then 1 else if 1<=op/\op<=6 then 2 else if 7<=op/\op<=23 then 3 else 0
def lQ(op:Int):Bool:=decide (13<=op/\op<=21)
def jN(op:Int):Bool:=decide (op=4)||decide (op=5)||decide (op=7)||decide (op=12)||decide (op=23)
def jO(op:Int):Bool:=decide (op=2)||decide (op=3)||decide (op=11)
def lR(op:Int):Bool:=decide (op=8)
def cd(op:Int):Int:=if op=1 then 2 else if op=2\/op=4\/op=22 then 1 else if lQ op=true then 2 else 0
def nR(op:Int):Int:=if op=0\/op=23 then-1 else if op=1 then 3 else if op=2\/op=4\/op=22 then 1 else if lQ op=true then 2 else 0
def qT(x:Node):Bool:=(jN x.op||Ah x.text)&&(lR x.op||decide (x.num=0))&&(jO x.op||Ai x.path)
def right(x:Node):Bool:=qT x&&decide (cd x.op<=x.n)&&(decide (nR x.op<0)||decide (x.n<=nR x.op))&&
 if x.op=2 then bM x.path&&decide (0<x.path.aR)
 else if x.op=3\/x.op=11 then bM x.path
 else if x.op=4\/x.op=12\/x.op=23 then lO x.text
 else if x.op=5\/x.op=7 then decide (x.text.size<=4096)
 else if x.op=8 then decide (0<=x.num/\x.num<=2147483647)
 else true
def wanted(x:Node)(i:Nat):Int:=if x.op=0 then 2 else if x.op=1/\0<i then 1 else 3
def iter(f:Nat->List Node->Option (List Node)):Nat->Nat->List Node->Option (List Node)
 |0,_,n=>some n
 |k+1,i,n=>match f i n with
  |some n'=>iter f k (i+1) n'
  |none=>none
def whole:Nat->List Node->Int->Option (List Node)
 |0,_,_=>none
 |_+1,[],_=>none
 |d+1,x::n,cls=>if b7 x.op=cls/\right x=true/\x.n<=n.length then iter (fun i n=>whole d n (wanted x i)) x.n.toNat 0 n else none
def Sw(n:List Node)(cls:Int):Bool:=decide (n.length<=400)&&match whole 20 n cls with
 |some []=>true
 |_=>false
def jP:Nat->Int->Tree->Bool
 |0,_,_=>false
 |d+1,cls,.mk x ks=>decide (b7 x.op=cls)&&right x&&decide (x.n=ks.length)&&ks.zipIdx.all fun(k,i)=>jP d (wanted x i) k
structure Fn where
 args:List Int
 tells:Int
 sort:Int
 table:Bool
def N4:ByteArray:=T [108,101,110]
def uM:ByteArray:=T [117,112,112,101,114]
def uN:ByteArray:=T [108,111,119,101,114]
def CP:ByteArray:=T [116,114,105,109]
def N7:ByteArray:=T [115,117,98]
def CQ:ByteArray:=T [102,105,110,100]
def lS:ByteArray:=T [114,101,112,108,97,99,101]
def Oa:ByteArray:=T [112,97,100]
def pG:ByteArray:=T [110,117,109,98,101,114]
def CR:ByteArray:=T [116,101,120,116]
def nh:ByteArray:=T [101,120,105,115,116,115]
def qU:ByteArray:=T [99,111,117,110,116]
def ni:ByteArray:=T [108,111,111,107,117,112]
def Kl:ByteArray:=T [104,97,115]
def jah:ByteArray:=T [110,111,119]
def fns:List (ByteArray×Fn):=
 [(N4,⟨[1],2,0,false⟩),(uM,⟨[1],1,0,false⟩),(uN,⟨[1],1,0,false⟩),(CP,⟨[1],1,0,false⟩),(N7,⟨[1,2,2],1,0,false⟩),(CQ,⟨[1,1],2,0,false⟩),
  (lS,⟨[1,1,1],1,0,false⟩),(Oa,⟨[1,2,1],1,0,false⟩),(pG,⟨[1],2,0,false⟩),(CR,⟨[2],1,0,false⟩),(nh,⟨[1],3,1,false⟩),(qU,⟨[1],2,2,false⟩),
  (ni,⟨[1,1,1],1,2,true⟩),(Kl,⟨[1,1],3,2,true⟩),(jah,⟨[],1,0,false⟩)]
def look{β:Type}(key:ByteArray):List (ByteArray×β)->Option β
 |[]=>none
 |(k,v)::l=>if bJ k key=true then some v else look key l
def both(a b:Int):Bool:=decide (a=b)&&(decide (a=1)||decide (a=2))
def ed(f:Tree->Except Int Int):List Tree->Except Int (List Int)
 |[]=> .ok []
 |t::l=>match f t with
  | .error e=> .error e
  | .ok k=>match ed f l with
    | .error e=> .error e
    | .ok ks=> .ok (k::ks)
def bl:List Tree->Node
 |t::_=>t.x
 |[]=>⟨0,0,ByteArray.empty,0,lN⟩
def iq(tables:List ByteArray)(f:Option Fn)(kinds:List Int)(first:Node):Except Int Int:=
 match f with
 |none=> .error 92
 |some f=>
  if kinds≠f.args then .error 82
  else if f.sort=1/\first.op≠11 then .error 82
  else if f.sort=2/\first.op≠7 then .error 82
  else if f.table=true/\fo tables first.text=false then .error 92
  else .ok f.tells
def xo(env:List (ByteArray×Int))(x:Node)(kinds:List Int)(Aj:Bool):Except Int Int:=
 if x.op=13\/x.op=14\/x.op=22 then(if kinds.all (fun k=>decide (k=3))=true then .ok 3 else .error 82)
 else if x.op=21 then(if both (kinds.getD 0 0) (kinds.getD 1 0)=true then .ok (kinds.getD 0 0) else .error 82)
 else if x.op=15\/x.op=16 then(if kinds.getD 0 0=kinds.getD 1 0 then .ok 3 else .error 82)
 else if 17<=x.op/\x.op<=20 then(if both (kinds.getD 0 0) (kinds.getD 1 0)=true then .ok 3 else .error 82)
 else if x.op=11 then(if Aj=true\/0<x.path.aR then .ok 1 else .error 82)
 else if x.op=12 then(match look x.text env with|some k=> .ok k|none=> .error 92)
 else if x.op=8 then .ok 2
 else if x.op=7 then .ok 1
 else .ok 3
def bG(tables:List ByteArray)(env:List (ByteArray×Int)):Nat->Bool->Tree->Except Int Int
 |0,_,_=> .error 0
 |d+1,Aj,.mk x ks=>
  if x.op=23 then
   match ed (bG tables env d (match look x.text fns with|some f=>decide (f.sort=1)|none=>false)) ks with
   | .error e=> .error e
   | .ok kinds=>iq tables (look x.text fns) kinds (bl ks)
  else
   match ed (bG tables env d false) ks with
   | .error e=> .error e
   | .ok kinds=>xo env x kinds Aj
def gH(f:List (ByteArray×Int)->Tree->Except Int (List (ByteArray×Int))):List (ByteArray×Int)->List Tree->Except Int (List (ByteArray×Int))
 |env,[]=> .ok env
 |env,t::l=>match f env t with
  | .error e=> .error e
  | .ok cS=>gH f cS l
def bh(dests tables:List ByteArray):Nat->List (ByteArray×Int)->Tree->Except Int (List (ByteArray×Int))
 |0,_,_=> .error 0
 |d+1,env,.mk x ks=>
  if x.op=0 then(match gH (bh dests tables d) env ks with| .error e=> .error e| .ok _=> .ok env)
  else if x.op=1 then(match bG tables env d false (ks.headD (.mk ⟨0,0,ByteArray.empty,0,lN⟩ [])) with
   | .error e=> .error e
   | .ok k=>if k=3 then gH (bh dests tables d) env ks.tail else .error 82)
  else if x.op=2 then(match bG tables env d false (ks.headD (.mk ⟨0,0,ByteArray.empty,0,lN⟩ [])) with
   | .error e=> .error e
   | .ok k=>if k=1 then .ok env else .error 82)
  else if x.op=4 then(match bG tables env d false (ks.headD (.mk ⟨0,0,ByteArray.empty,0,lN⟩ [])) with
   | .error e=> .error e
   | .ok k=>match look x.text env with
     |some had=>if had=k then .ok env else .error 82
     |none=> .ok (env++[(x.text,k)]))
  else if x.op=5 then(if fo dests x.text=true then .ok env else .error 92)
  else .ok env
end M
end Go.Proofs.YtpohlhkgbmdieaaGreatDoor
