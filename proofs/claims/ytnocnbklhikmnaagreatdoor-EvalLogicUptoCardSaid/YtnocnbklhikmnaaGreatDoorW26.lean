/- Part 26 of the proof. -/
import Derived.Test.YtnocnbklhikmnaaGreatDoorW22
import Derived.Test.YtnocnbklhikmnaaGreatDoorW24
import Derived.Test.YtnocnbklhikmnaaGreatDoorW25
set_option linter.unusedVariables false
set_option maxRecDepth 1000000
set_option maxHeartbeats 16000000
namespace Go.Proofs.YtnocnbklhikmnaaGreatDoor
variable{a:List M.Val}{ab:Nat}{by_:ByteArray}{c ga:Nat}{k:Int}{n:Nat}{s:ByteArray}{w:World}
open Go Go.RowKit Go.BigFrame Go.Maps Go.WideMaps
structure Args(w:World)(ab ga n c:Nat)(a:List M.Val):Prop where
 blk:Blk w ab 216 #[.slice (some ⟨ga,0,none⟩) n c]
 len:a.length=n
 cell:∀(i:Nat) (v:M.Val),a[i]? =some v->w.cell? ⟨ga,i*4+1,none⟩=some (.string v.text)/\w.cell? ⟨ga,i*4+2,none⟩=some (.int .i64 v.num)
 ok:∀v∈a,VOk v
 lt:ga<w.heap.size
theorem Args.below{w':World}(h:Args w ab ga n c a)(hb:Below w.heap.size w w'):Args w' ab ga n c a:=
 ⟨h.blk.below hb h.blk.lt,h.len,fun i v hi=>⟨(hb.cell (p:=⟨ga,i*4+1,none⟩) h.lt).trans (h.cell i v hi).1,(hb.cell (p:=⟨ga,i*4+2,none⟩) h.lt).trans (h.cell i v hi).2⟩,h.ok,Nat.lt_of_lt_of_le h.lt hb.size⟩
theorem arg_at{i:Nat}(h:i<a.length):∃v,a[i]? =some v/\M.argAt a i=v:=⟨a[i],List.getElem?_eq_getElem h,by unfold M.argAt;rw[List.getD_eq_getElem?_getD,List.getElem?_eq_getElem h];rfl⟩
theorem Args.arg(hA:Args w ab ga n c a)(i:Nat)(hi:i<a.length):∃v,M.argAt a i=v/\Q_ (VOk v)/\Q_ (∀W,Below w.heap.size w W->W.cell? ⟨ga,i*4+1,none⟩=some (.string v.text)/\W.cell? ⟨ga,i*4+2,none⟩=some (.int .i64 v.num)):=by
 obtain⟨v,h,e⟩:=arg_at hi;exact⟨v,e,q_ (hA.ok v (List.mem_of_getElem? h)),q_ (fun W hW=>(hA.below hW).cell i v h)⟩
theorem toldE_ok(t:ByteArray):toldE (.ok t)= .returned (.tuple #[.string t,.int .i64 0]):=rfl
theorem toldE_err(k:Int):toldE (.error k)= .returned (.tuple #[.string ⟨#[]⟩,.int .i64 k]):=rfl
theorem replace_err{old:ByteArray}(h:M.replace s old by_= .error k):k≠0:=by
 unfold M.replace at h;split at h
 ·split at h
  ·cases h;decide
  ·cases h
 ·split at h
  ·cases h
  ·cases h;decide
theorem pad_err{n:Int}(h:M.pad s n by_= .error k):k≠0:=by
 unfold M.pad at h;split at h
 ·split at h
  ·cases h;decide
  ·cases h
 ·split at h
  ·cases h;decide
  ·cases h
theorem cl1_any(a:List M.Val)(ab ga n c:Nat)(w:World)(hA:Args w ab ga n c a)(hk:1<=a.length):
 Calls Tryz.prog 142 #[.pointer (some ⟨ab,0,none⟩)] w fun e w'=>e=valE (.ok (M.vNum (M.argAt a 0).text.size))/\Below w.heap.size w w':=by
 obtain⟨v0,e0,O0,C0⟩:=hA.arg 0 (by omega);have g0:(0<n)=True:=eq_true (by have:=hA.len;omega);have gi0:((0:Int)<(n:Int))=True:=eq_true (by have:=hA.len;omega);have HE:=q_ (show(.ok (M.vNum (M.argAt a 0).text.size):Except Int M.Val)= .ok (M.vNum v0.text.size) by rw[e0]);have HA:=q_ hA;have K1:=q_ (Blk.new w 37 #[.int .i64 0,.string ⟨#[]⟩,.int .i64 0,.bool false]);have B1:=q_ ((Below.refl _ w).alloc (n_) (.cells #[.int .i64 0,.string ⟨#[]⟩,.int .i64 0,.bool false] 37));have z:=(HA.o.below B1.o).blk.cell;obtain⟨x0,y0⟩:=C0.o _ B1.o;clear hA e0;go_enter Tryz.func142,Tryz.ntmps142;go_wp2_with fail;refine(ofNum_any _ _).mono ?_
 rintro e w2 ⟨rfl,hb⟩;have B2:=q_ (B1.o.trans (hb.mono B1.o.size));have K2:=q_ (K1.o.below hb K1.o.lt);clear hb;go_wp2_with (refine wpList_store_V rfl (.tmp 1) (.tmp 7) rfl w.heap.size (M.vNum v0.text.size) (by rfl) (by rfl) (K2.o) rfl ?_;intro w9 k9 g9;have K9:=q_ k9;have B9:=q_ (below_gr B2.o g9 (n_));clear k9 g9)
 (try simp only[Exit.inBlock,Exit.then]);exact bodyPost_ret (val_res rfl K9.o rfl) rfl ⟨by rw[HE.o];rfl,B9.o⟩
theorem cl2_any(a:List M.Val)(ab ga n c:Nat)(w:World)(hA:Args w ab ga n c a)(hk:1<=a.length):
 Calls Tryz.prog 143 #[.pointer (some ⟨ab,0,none⟩)] w fun e w'=>e=valE (.ok (M.vText (M.turned 97 122 (M.argAt a 0).text)))/\Below w.heap.size w w':=by
 obtain⟨v0,e0,O0,C0⟩:=hA.arg 0 (by omega);have g0:(0<n)=True:=eq_true (by have:=hA.len;omega);have gi0:((0:Int)<(n:Int))=True:=eq_true (by have:=hA.len;omega);have HE:=q_ (show(.ok (M.vText (M.turned 97 122 (M.argAt a 0).text)):Except Int M.Val)= .ok (M.vText (M.turned 97 122 v0.text)) by rw[e0]);have HA:=q_ hA;have K1:=q_ (Blk.new w 37 #[.int .i64 0,.string ⟨#[]⟩,.int .i64 0,.bool false]);have B1:=q_ ((Below.refl _ w).alloc (n_) (.cells #[.int .i64 0,.string ⟨#[]⟩,.int .i64 0,.bool false] 37));have z:=(HA.o.below B1.o).blk.cell;obtain⟨x0,y0⟩:=C0.o _ B1.o;clear hA e0;go_enter Tryz.func143,Tryz.ntmps143;go_wp2_with fail;refine(upper_any v0.text _ O0.o.text).mono ?_
 rintro e w2 ⟨rfl,hb⟩;have B2:=q_ (B1.o.trans (hb.mono B1.o.size));have K2:=q_ (K1.o.below hb K1.o.lt);clear hb;go_wp2_with fail;refine(ofText_any _ _).mono ?_
 rintro e w3 ⟨rfl,hb⟩;have B3:=q_ (B2.o.trans (hb.mono B2.o.size));have K3:=q_ (K2.o.below hb K2.o.lt);clear hb;go_wp2_with (refine wpList_store_V rfl (.tmp 1) (.tmp 7) rfl w.heap.size (M.vText (M.turned 97 122 v0.text)) (by rfl) (by rfl) (K3.o) rfl ?_;intro w9 k9 g9;have K9:=q_ k9;have B9:=q_ (below_gr B3.o g9 (n_));clear k9 g9)
 (try simp only[Exit.inBlock,Exit.then]);exact bodyPost_ret (val_res rfl K9.o rfl) rfl ⟨by rw[HE.o];rfl,B9.o⟩
theorem cl3_any(a:List M.Val)(ab ga n c:Nat)(w:World)(hA:Args w ab ga n c a)(hk:1<=a.length):
 Calls Tryz.prog 145 #[.pointer (some ⟨ab,0,none⟩)] w fun e w'=>e=valE (.ok (M.vText (M.turned 65 90 (M.argAt a 0).text)))/\Below w.heap.size w w':=by
 obtain⟨v0,e0,O0,C0⟩:=hA.arg 0 (by omega);have g0:(0<n)=True:=eq_true (by have:=hA.len;omega);have gi0:((0:Int)<(n:Int))=True:=eq_true (by have:=hA.len;omega);have HE:=q_ (show(.ok (M.vText (M.turned 65 90 (M.argAt a 0).text)):Except Int M.Val)= .ok (M.vText (M.turned 65 90 v0.text)) by rw[e0]);have HA:=q_ hA;have K1:=q_ (Blk.new w 37 #[.int .i64 0,.string ⟨#[]⟩,.int .i64 0,.bool false]);have B1:=q_ ((Below.refl _ w).alloc (n_) (.cells #[.int .i64 0,.string ⟨#[]⟩,.int .i64 0,.bool false] 37));have z:=(HA.o.below B1.o).blk.cell;obtain⟨x0,y0⟩:=C0.o _ B1.o;clear hA e0;go_enter Tryz.func145,Tryz.ntmps145;go_wp2_with fail;refine(lower_any v0.text _ O0.o.text).mono ?_
 rintro e w2 ⟨rfl,hb⟩;have B2:=q_ (B1.o.trans (hb.mono B1.o.size));have K2:=q_ (K1.o.below hb K1.o.lt);clear hb;go_wp2_with fail;refine(ofText_any _ _).mono ?_
 rintro e w3 ⟨rfl,hb⟩;have B3:=q_ (B2.o.trans (hb.mono B2.o.size));have K3:=q_ (K2.o.below hb K2.o.lt);clear hb;go_wp2_with (refine wpList_store_V rfl (.tmp 1) (.tmp 7) rfl w.heap.size (M.vText (M.turned 65 90 v0.text)) (by rfl) (by rfl) (K3.o) rfl ?_;intro w9 k9 g9;have K9:=q_ k9;have B9:=q_ (below_gr B3.o g9 (n_));clear k9 g9)
 (try simp only[Exit.inBlock,Exit.then]);exact bodyPost_ret (val_res rfl K9.o rfl) rfl ⟨by rw[HE.o];rfl,B9.o⟩
theorem cl4_any(a:List M.Val)(ab ga n c:Nat)(w:World)(hA:Args w ab ga n c a)(hk:1<=a.length):
 Calls Tryz.prog 147 #[.pointer (some ⟨ab,0,none⟩)] w fun e w'=>e=valE (.ok (M.vText (M.trim (M.argAt a 0).text)))/\Below w.heap.size w w':=by
 obtain⟨v0,e0,O0,C0⟩:=hA.arg 0 (by omega);have g0:(0<n)=True:=eq_true (by have:=hA.len;omega);have gi0:((0:Int)<(n:Int))=True:=eq_true (by have:=hA.len;omega);have HE:=q_ (show(.ok (M.vText (M.trim (M.argAt a 0).text)):Except Int M.Val)= .ok (M.vText (M.trim v0.text)) by rw[e0]);have HA:=q_ hA;have K1:=q_ (Blk.new w 37 #[.int .i64 0,.string ⟨#[]⟩,.int .i64 0,.bool false]);have B1:=q_ ((Below.refl _ w).alloc (n_) (.cells #[.int .i64 0,.string ⟨#[]⟩,.int .i64 0,.bool false] 37));have z:=(HA.o.below B1.o).blk.cell;obtain⟨x0,y0⟩:=C0.o _ B1.o;clear hA e0;go_enter Tryz.func147,Tryz.ntmps147;go_wp2_with fail;refine(textTrim_any v0.text _ O0.o.text).mono ?_
 rintro e w2 ⟨rfl,hb⟩;have B2:=q_ (B1.o.trans (hb.mono B1.o.size));have K2:=q_ (K1.o.below hb K1.o.lt);clear hb;go_wp2_with fail;refine(ofText_any _ _).mono ?_
 rintro e w3 ⟨rfl,hb⟩;have B3:=q_ (B2.o.trans (hb.mono B2.o.size));have K3:=q_ (K2.o.below hb K2.o.lt);clear hb;go_wp2_with (refine wpList_store_V rfl (.tmp 1) (.tmp 7) rfl w.heap.size (M.vText (M.trim v0.text)) (by rfl) (by rfl) (K3.o) rfl ?_;intro w9 k9 g9;have K9:=q_ k9;have B9:=q_ (below_gr B3.o g9 (n_));clear k9 g9)
 (try simp only[Exit.inBlock,Exit.then]);exact bodyPost_ret (val_res rfl K9.o rfl) rfl ⟨by rw[HE.o];rfl,B9.o⟩
def numR(s:ByteArray):Except Int M.Val:=if P.numOk (M.L s)=true then .ok (M.vNum (P.numV (M.L s))) else .error 11
theorem num_facts(s:ByteArray)(h:s.size<=1048576):(P.numOk s.data.toList=true/\P.numE s.data.toList=0)\/(P.numOk s.data.toList=false/\P.numE s.data.toList=11):=by
 cases hq:P.numOk s.data.toList with
 |true=>exact .inl ⟨rfl,by simp[P.numE,hq]⟩
 |false=>exact .inr ⟨rfl,by simp[P.numE,hq]⟩
theorem cl9_any(a:List M.Val)(ab ga n c:Nat)(w:World)(hA:Args w ab ga n c a)(hk:1<=a.length):
 Calls Tryz.prog 158 #[.pointer (some ⟨ab,0,none⟩)] w fun e w'=>e=valE (numR (M.argAt a 0).text)/\Below w.heap.size w w':=by
 obtain⟨v0,e0,O0,C0⟩:=hA.arg 0 (by omega);have g0:(0<n)=True:=eq_true (by have:=hA.len;omega);have gi0:((0:Int)<(n:Int))=True:=eq_true (by have:=hA.len;omega);have HE:=q_ (show(numR (M.argAt a 0).text:Except Int M.Val)=numR v0.text by rw[e0]);have HA:=q_ hA;have K1:=q_ (Blk.new w 37 #[.int .i64 0,.string ⟨#[]⟩,.int .i64 0,.bool false]);have B1:=q_ ((Below.refl _ w).alloc (n_) (.cells #[.int .i64 0,.string ⟨#[]⟩,.int .i64 0,.bool false] 37));have z:=(HA.o.below B1.o).blk.cell;obtain⟨x0,y0⟩:=C0.o _ B1.o;clear hA e0;go_enter Tryz.func158,Tryz.ntmps158;go_wp2_with fail;refine(number_any v0.text _ (Nat.le_trans O0.o.text (by decide))).mono ?_
 rintro e w2 ⟨rfl,h2⟩;subst h2;rcases num_facts v0.text O0.o.text with⟨hq,hE⟩|⟨hq,hE⟩
 ·have HS:=q_ (HE.o.trans (if_pos hq))
  have HV:=q_ (show P.numV v0.text.data.toList=P.numV (M.L v0.text) from rfl);rw[hE];generalize P.numV v0.text.data.toList=V at HV⊢;clear hq hE HE;go_wp2_with fail;refine(ewant_yes _).mono ?_
  rintro e w2 ⟨rfl,h2⟩;have h2:=h2.symm;subst h2;go_wp2_with fail;refine(ofNum_any _ _).mono ?_
  rintro e w2 ⟨rfl,hb⟩;have B2:=q_ (B1.o.trans (hb.mono B1.o.size));have K2:=q_ (K1.o.below hb K1.o.lt);clear hb;go_wp2_with (refine wpList_store_V rfl (.tmp 1) (.tmp 15) rfl w.heap.size (M.vNum V) (by rfl) (by rfl) (K2.o) rfl ?_;intro w9 k9 g9;have K9:=q_ k9;have B9:=q_ (below_gr B2.o g9 (n_));clear k9 g9)
  (try simp only[Exit.inBlock,Exit.then]);exact bodyPost_ret (val_res rfl K9.o rfl) rfl ⟨by rw[HS.o,<-HV.o];rfl,B9.o⟩
 ·have HS:=q_ (HE.o.trans (if_neg (by rw[show M.L v0.text=v0.text.data.toList from rfl,hq];simp)))
  rw[hE];generalize P.numV v0.text.data.toList=V;clear hq hE HE;go_wp2_with fail;refine(ewant_no 11 (by decide) _).mono ?_
  rintro e w2 ⟨rfl,h2⟩;have h2:=h2.symm;subst h2;unfold panE;go_wp2;exact⟨rfl,by rw[HS.o];rfl,B1.o⟩
theorem cl10_any(a:List M.Val)(ab ga n c:Nat)(w:World)(hA:Args w ab ga n c a)(hk:1<=a.length):
 Calls Tryz.prog 161 #[.pointer (some ⟨ab,0,none⟩)] w fun e w'=>e=valE (.ok (M.vText (M.T (P.digits (M.argAt a 0).num))))/\Below w.heap.size w w':=by
 obtain⟨v0,e0,O0,C0⟩:=hA.arg 0 (by omega);have g0:(0<n)=True:=eq_true (by have:=hA.len;omega);have gi0:((0:Int)<(n:Int))=True:=eq_true (by have:=hA.len;omega);have HE:=q_ (show(.ok (M.vText (M.T (P.digits (M.argAt a 0).num))):Except Int M.Val)= .ok (M.vText (M.T (P.digits v0.num))) by rw[e0]);have HA:=q_ hA;have K1:=q_ (Blk.new w 37 #[.int .i64 0,.string ⟨#[]⟩,.int .i64 0,.bool false]);have B1:=q_ ((Below.refl _ w).alloc (n_) (.cells #[.int .i64 0,.string ⟨#[]⟩,.int .i64 0,.bool false] 37));have z:=(HA.o.below B1.o).blk.cell;obtain⟨x0,y0⟩:=C0.o _ B1.o;clear hA e0;go_enter Tryz.func161,Tryz.ntmps161;go_wp2_with fail;refine(digits_any v0.num _ (by have:=O0.o.lo;omega) (by have:=O0.o.hi;omega)).mono ?_
 rintro e w2 ⟨rfl,hb⟩;have B2:=q_ (B1.o.trans (hb.mono B1.o.size));have K2:=q_ (K1.o.below hb K1.o.lt);clear hb;go_wp2_with fail;refine(ofText_any _ _).mono ?_
 rintro e w3 ⟨rfl,hb⟩;have B3:=q_ (B2.o.trans (hb.mono B2.o.size));have K3:=q_ (K2.o.below hb K2.o.lt);clear hb;go_wp2_with (refine wpList_store_V rfl (.tmp 1) (.tmp 7) rfl w.heap.size (M.vText (M.T (P.digits v0.num))) (by rfl) (by rfl) (K3.o) rfl ?_;intro w9 k9 g9;have K9:=q_ k9;have B9:=q_ (below_gr B3.o g9 (n_));clear k9 g9)
 (try simp only[Exit.inBlock,Exit.then]);exact bodyPost_ret (val_res rfl K9.o rfl) rfl ⟨by rw[HE.o];rfl,B9.o⟩
theorem cl5_any(a:List M.Val)(ab ga n c:Nat)(w:World)(hA:Args w ab ga n c a)(hk:3<=a.length):
 Calls Tryz.prog 149 #[.pointer (some ⟨ab,0,none⟩)] w fun e w'=>e=valE (.ok (M.vText (M.sub (M.argAt a 0).text (M.argAt a 1).num (M.argAt a 2).num)))/\Below w.heap.size w w':=by
 obtain⟨v0,e0,O0,C0⟩:=hA.arg 0 (by omega);obtain⟨v1,e1,O1,C1⟩:=hA.arg 1 (by omega);obtain⟨v2,e2,O2,C2⟩:=hA.arg 2 (by omega);have g0:(0<n)=True:=eq_true (by have:=hA.len;omega);have gi0:((0:Int)<(n:Int))=True:=eq_true (by have:=hA.len;omega);have gi1:((1:Int)<(n:Int))=True:=eq_true (by have:=hA.len;omega);have gi2:((2:Int)<(n:Int))=True:=eq_true (by have:=hA.len;omega);have HE:=q_ (show(.ok (M.vText (M.sub (M.argAt a 0).text (M.argAt a 1).num (M.argAt a 2).num)):Except Int M.Val)= .ok (M.vText (M.sub v0.text v1.num v2.num)) by rw[e0,e1,e2]);have HA:=q_ hA;have K1:=q_ (Blk.new w 37 #[.int .i64 0,.string ⟨#[]⟩,.int .i64 0,.bool false]);have B1:=q_ ((Below.refl _ w).alloc (n_) (.cells #[.int .i64 0,.string ⟨#[]⟩,.int .i64 0,.bool false] 37));have z:=(HA.o.below B1.o).blk.cell;obtain⟨x0,y0⟩:=C0.o _ B1.o;obtain⟨x1,y1⟩:=C1.o _ B1.o;obtain⟨x2,y2⟩:=C2.o _ B1.o;clear hA e0 e1 e2;go_enter Tryz.func149,Tryz.ntmps149;go_wp2_with fail;clear z x0 y0 x1 y1 x2 y2;generalize w.alloc (.cells #[.int .i64 0,.string ⟨#[]⟩,.int .i64 0,.bool false] 37)=w1 at K1 B1⊢
 refine wp_region_genP (KP:=fun _ _=>False) 14 [] (NewI w1) (by kernel_rfl) (by kernel_rfl) (NewI.start w1) (fun ch a2 w5 hd hk=>hk.elim) ?_
 iterate 14
  apply wpGenP_pure rfl
  ·intro L vs wx hI hR hL K hK
   first
   |have c0:=(HA.o.below (B1.o.trans (hI.mono B1.o.size))).blk.cell
    go_simp;exact hK _ hI
   |have c0:=(C0.o _ (B1.o.trans (hI.mono B1.o.size))).1
    go_simp;exact hK _ hI
   |have c0:=(C1.o _ (B1.o.trans (hI.mono B1.o.size))).2
    go_simp;exact hK _ hI
   |have c0:=(C2.o _ (B1.o.trans (hI.mono B1.o.size))).2
    go_simp;exact hK _ hI
   |go_simp
    exact(textSub_any v0.text v1.num v2.num _ O0.o.text ⟨by have:=O1.o.lo;omega,by have:=O1.o.hi;omega⟩ ⟨by have:=O2.o.lo;omega,by have:=O2.o.hi;omega⟩).mono fun e w' ⟨h1,h2⟩=>⟨_,h1,hK _ (hI.trans (h2.mono hI.size))⟩
   |go_simp
    exact(ofText_any _ _).mono fun e w' ⟨h1,h2⟩=>⟨_,h1,hK _ (hI.trans (h2.mono hI.size))⟩
  intro KK hKK;go_simp;refine hKK _ ?_;clear hKK KK
 refine wpGenP_nil ?_;intro vs w2 hI;have B2:=q_ (B1.o.trans (hI.mono B1.o.size));have K2:=q_ (K1.o.below hI K1.o.lt);clear hI;intro KK hKK;have hKN:=fun a w h=>hKK .normal a w h;simp only[List.drop_succ_cons];refine wpList_store_V rfl (.tmp 1) (.tmp 15) rfl w.heap.size (M.vText (M.sub v0.text v1.num v2.num)) (by rfl) (by rfl) (K2.o) rfl ?_;intro w9 k9 g9;have K9:=q_ k9;have B9:=q_ (below_gr B2.o g9 (n_));clear k9 g9;go_wp2_with fail
 (try simp only[Exit.inBlock,Exit.then]);exact bodyPost_ret (val_res rfl K9.o rfl) rfl ⟨by rw[HE.o];rfl,B9.o⟩
theorem cl6_any(a:List M.Val)(ab ga n c:Nat)(w:World)(hA:Args w ab ga n c a)(hk:2<=a.length)(mx:Int)(hm2:2<w.heap.size)(hmx:w.cell? ⟨2,0,none⟩=some (.int .i64 mx)):
 Calls Tryz.prog 151 #[.pointer (some ⟨ab,0,none⟩)] w fun e w'=>e=valE (.ok (M.vNum (M.find (M.argAt a 0).text (M.argAt a 1).text)))/\Below w.heap.size w w':=by
 obtain⟨v0,e0,O0,C0⟩:=hA.arg 0 (by omega);obtain⟨v1,e1,O1,C1⟩:=hA.arg 1 (by omega);have g0:(0<n)=True:=eq_true (by have:=hA.len;omega);have gi0:((0:Int)<(n:Int))=True:=eq_true (by have:=hA.len;omega);have gi1:((1:Int)<(n:Int))=True:=eq_true (by have:=hA.len;omega);have HE:=q_ (show(.ok (M.vNum (M.find (M.argAt a 0).text (M.argAt a 1).text)):Except Int M.Val)= .ok (M.vNum (M.find v0.text v1.text)) by rw[e0,e1]);have HA:=q_ hA;have K1:=q_ (Blk.new w 37 #[.int .i64 0,.string ⟨#[]⟩,.int .i64 0,.bool false]);have B1:=q_ ((Below.refl _ w).alloc (n_) (.cells #[.int .i64 0,.string ⟨#[]⟩,.int .i64 0,.bool false] 37));have MX:=q_ (fun(W:World) (h:Below w.heap.size w W)=>(h.cell (p:=⟨2,0,none⟩) hm2).trans hmx);have M2:=q_ hm2;have z:=(HA.o.below B1.o).blk.cell;obtain⟨x0,y0⟩:=C0.o _ B1.o;obtain⟨x1,y1⟩:=C1.o _ B1.o;clear hA e0 e1;go_enter Tryz.func151,Tryz.ntmps151;go_wp2_with fail;clear z x0 y0 x1 y1 hm2 hmx;generalize w.alloc (.cells #[.int .i64 0,.string ⟨#[]⟩,.int .i64 0,.bool false] 37)=w1 at K1 B1⊢;refine wp_region_genP (KP:=fun _ _=>False) 10 [] (NewI w1) (by kernel_rfl) (by kernel_rfl) (NewI.start w1) (fun ch a2 w5 hd hk=>hk.elim) ?_
 iterate 10
  apply wpGenP_pure rfl
  ·intro L vs wx hI hR hL K hK
   first
   |have c0:=(HA.o.below (B1.o.trans (hI.mono B1.o.size))).blk.cell
    go_simp;exact hK _ hI
   |have c0:=(C0.o _ (B1.o.trans (hI.mono B1.o.size))).1
    go_simp;exact hK _ hI
   |have c0:=(C1.o _ (B1.o.trans (hI.mono B1.o.size))).1
    go_simp;exact hK _ hI
   |go_simp
    exact(textFind_any v0.text v1.text mx _ O0.o.text (MX.o _ (B1.o.trans (hI.mono B1.o.size)))).mono fun e w' ⟨h1,h2⟩=>⟨_,h1,hK _ (hI.trans (h2.mono hI.size))⟩
   |go_simp
    exact(ofNum_any _ _).mono fun e w' ⟨h1,h2⟩=>⟨_,h1,hK _ (hI.trans (h2.mono hI.size))⟩
  intro KK hKK;go_simp;refine hKK _ ?_;clear hKK KK
 refine wpGenP_nil ?_;intro vs w2 hI;have B2:=q_ (B1.o.trans (hI.mono B1.o.size));have K2:=q_ (K1.o.below hI K1.o.lt);clear hI;intro KK hKK;have hKN:=fun a w h=>hKK .normal a w h;simp only[List.drop_succ_cons];refine wpList_store_V rfl (.tmp 1) (.tmp 11) rfl w.heap.size (M.vNum (M.find v0.text v1.text)) (by rfl) (by rfl) (K2.o) rfl ?_;intro w9 k9 g9;have K9:=q_ k9;have B9:=q_ (below_gr B2.o g9 (n_));clear k9 g9;go_wp2_with fail
 (try simp only[Exit.inBlock,Exit.then]);exact bodyPost_ret (val_res rfl K9.o rfl) rfl ⟨by rw[HE.o];rfl,B9.o⟩
theorem cl7_any(a:List M.Val)(ab ga n c:Nat)(w:World)(hA:Args w ab ga n c a)(hk:3<=a.length)(mx:Int)(hm2:2<w.heap.size)(hmx:w.cell? ⟨2,0,none⟩=some (.int .i64 mx)):
 Calls Tryz.prog 153 #[.pointer (some ⟨ab,0,none⟩)] w fun e w'=>e=valE (M.told (M.replace (M.argAt a 0).text (M.argAt a 1).text (M.argAt a 2).text))/\Below w.heap.size w w':=by
 obtain⟨v0,e0,O0,C0⟩:=hA.arg 0 (by omega);obtain⟨v1,e1,O1,C1⟩:=hA.arg 1 (by omega);obtain⟨v2,e2,O2,C2⟩:=hA.arg 2 (by omega);have g0:(0<n)=True:=eq_true (by have:=hA.len;omega);have gi0:((0:Int)<(n:Int))=True:=eq_true (by have:=hA.len;omega);have gi1:((1:Int)<(n:Int))=True:=eq_true (by have:=hA.len;omega);have gi2:((2:Int)<(n:Int))=True:=eq_true (by have:=hA.len;omega);have HE:=q_ (show(M.told (M.replace (M.argAt a 0).text (M.argAt a 1).text (M.argAt a 2).text):Except Int M.Val)=M.told (M.replace v0.text v1.text v2.text) by rw[e0,e1,e2]);have HA:=q_ hA;have K1:=q_ (Blk.new w 37 #[.int .i64 0,.string ⟨#[]⟩,.int .i64 0,.bool false]);have B1:=q_ ((Below.refl _ w).alloc (n_) (.cells #[.int .i64 0,.string ⟨#[]⟩,.int .i64 0,.bool false] 37));have MX:=q_ (fun(W:World) (h:Below w.heap.size w W)=>(h.cell (p:=⟨2,0,none⟩) hm2).trans hmx);have M2:=q_ hm2;have z:=(HA.o.below B1.o).blk.cell;obtain⟨x0,y0⟩:=C0.o _ B1.o;obtain⟨x1,y1⟩:=C1.o _ B1.o;obtain⟨x2,y2⟩:=C2.o _ B1.o;clear hA e0 e1 e2;go_enter Tryz.func153,Tryz.ntmps153;go_wp2_with fail;clear z x0 y0 x1 y1 x2 y2 hm2 hmx
 generalize w.alloc (.cells #[.int .i64 0,.string ⟨#[]⟩,.int .i64 0,.bool false] 37)=w1 at K1 B1⊢;have KC:=q_ (fun(W:World) (h:Below w.heap.size w W)=>replace_any v0.text v1.text v2.text mx W O0.o.text O1.o.text O2.o.text (Nat.lt_of_lt_of_le M2.o h.size) (MX.o W h));have KT:=q_ (fun k (h:M.replace v0.text v1.text v2.text= .error k)=>replace_err h);cases hr:M.replace v0.text v1.text v2.text with
 |error k=>
  have HK:=q_ (KT.o k hr);rw[hr] at KC HE;rw[toldE_err] at KC;clear hr KT;refine wp_region_genP (KP:=fun ch w5=>panE k= .panicked ch/\Below w.heap.size w w5) 16 [] (ErrI w1 15) (by kernel_rfl) (by kernel_rfl) (ErrI.start w1 15) (fun ch a2 w5 hd hk=>⟨hd,by rw[HE.o];exact hk.1.symm,hk.2⟩) ?_
  iterate 15
   apply wpGenP_pure rfl
   ·intro L vs wx hI hR hL K hK
    first
    |have c0:=(HA.o.below (B1.o.trans (hI.below.mono B1.o.size))).blk.cell
     go_simp;exact hK _ (hI.pure (by decide))
    |have c0:=(C0.o _ (B1.o.trans (hI.below.mono B1.o.size))).1
     go_simp;exact hK _ (hI.pure (by decide))
    |have c0:=(C1.o _ (B1.o.trans (hI.below.mono B1.o.size))).1
     go_simp;exact hK _ (hI.pure (by decide))
    |have c0:=(C2.o _ (B1.o.trans (hI.below.mono B1.o.size))).1
     go_simp;exact hK _ (hI.pure (by decide))
    |go_simp
     exact(KC.o _ (B1.o.trans (hI.below.mono B1.o.size))).mono fun e w' ⟨h1,h2⟩=> .inl ⟨_,h1,hK _ (hI.on h2 (by decide))⟩
   intro KK hKK;go_simp;refine hKK _ ?_;clear hKK KK
  refine wpGenP_pure (v:=undef) rfl ?_ ?_
  ·intro L vs wx hI hR hL K hK
   go_simp;exact(told_any (.error k) ⟨#[]⟩ k (.inr ⟨rfl,HK.o⟩) wx).mono fun e w' ⟨he,hb⟩=> .inr ⟨_,he,rfl,(B1.o.trans (hI.below.mono B1.o.size)).trans (hb.mono (Nat.le_trans B1.o.size hI.below.size))⟩
  intro KK hKK;go_simp;refine hKK _ ?_;clear hKK KK;refine wpGenP_nil ?_;intro vs w5 hI;exact absurd hI.no (by decide)
 |ok t=>
  rw[hr] at KC HE;rw[toldE_ok] at KC;clear hr KT;refine wp_region_genP (KP:=fun _ _=>False) 16 [] (NewI w1) (by kernel_rfl) (by kernel_rfl) (NewI.start w1) (fun ch a2 w5 hd hk=>hk.elim) ?_
  iterate 16
   apply wpGenP_pure rfl
   ·intro L vs wx hI hR hL K hK
    first
    |have c0:=(HA.o.below (B1.o.trans (hI.mono B1.o.size))).blk.cell
     go_simp;exact hK _ hI
    |have c0:=(C0.o _ (B1.o.trans (hI.mono B1.o.size))).1
     go_simp;exact hK _ hI
    |have c0:=(C1.o _ (B1.o.trans (hI.mono B1.o.size))).1
     go_simp;exact hK _ hI
    |have c0:=(C2.o _ (B1.o.trans (hI.mono B1.o.size))).1
     go_simp;exact hK _ hI
    |go_simp
     exact(KC.o _ (B1.o.trans (hI.mono B1.o.size))).mono fun e w' ⟨h1,h2⟩=>⟨_,h1,hK _ (hI.trans (h2.mono hI.size))⟩
    |go_simp
     exact(told_any (.ok t) t 0 (.inl ⟨rfl,rfl⟩) _).mono fun e w' ⟨h1,h2⟩=>⟨_,h1,hK _ (hI.trans (h2.mono hI.size))⟩
   intro KK hKK;go_simp;refine hKK _ ?_;clear hKK KK
  refine wpGenP_nil ?_;intro vs w2 hI;have B2:=q_ (B1.o.trans (hI.mono B1.o.size));have K2:=q_ (K1.o.below hI K1.o.lt);clear hI;intro KK hKK;have hKN:=fun a w h=>hKK .normal a w h;simp only[List.drop_succ_cons];refine wpList_store_V rfl (.tmp 1) (.tmp 17) rfl w.heap.size (M.vText t) (by rfl) (by rfl) (K2.o) rfl ?_;intro w9 k9 g9;have K9:=q_ k9;have B9:=q_ (below_gr B2.o g9 (n_));clear k9 g9;go_wp2_with fail
  (try simp only[Exit.inBlock,Exit.then]);exact bodyPost_ret (val_res rfl K9.o rfl) rfl ⟨by rw[HE.o];rfl,B9.o⟩
theorem cl8_any(a:List M.Val)(ab ga n c:Nat)(w:World)(hA:Args w ab ga n c a)(hk:3<=a.length):
 Calls Tryz.prog 156 #[.pointer (some ⟨ab,0,none⟩)] w fun e w'=>e=valE (M.told (M.pad (M.argAt a 0).text (M.argAt a 1).num (M.argAt a 2).text))/\Below w.heap.size w w':=by
 obtain⟨v0,e0,O0,C0⟩:=hA.arg 0 (by omega);obtain⟨v1,e1,O1,C1⟩:=hA.arg 1 (by omega);obtain⟨v2,e2,O2,C2⟩:=hA.arg 2 (by omega);have g0:(0<n)=True:=eq_true (by have:=hA.len;omega);have gi0:((0:Int)<(n:Int))=True:=eq_true (by have:=hA.len;omega);have gi1:((1:Int)<(n:Int))=True:=eq_true (by have:=hA.len;omega);have gi2:((2:Int)<(n:Int))=True:=eq_true (by have:=hA.len;omega);have HE:=q_ (show(M.told (M.pad (M.argAt a 0).text (M.argAt a 1).num (M.argAt a 2).text):Except Int M.Val)=M.told (M.pad v0.text v1.num v2.text) by rw[e0,e1,e2]);have HA:=q_ hA;have K1:=q_ (Blk.new w 37 #[.int .i64 0,.string ⟨#[]⟩,.int .i64 0,.bool false]);have B1:=q_ ((Below.refl _ w).alloc (n_) (.cells #[.int .i64 0,.string ⟨#[]⟩,.int .i64 0,.bool false] 37));have z:=(HA.o.below B1.o).blk.cell;obtain⟨x0,y0⟩:=C0.o _ B1.o;obtain⟨x1,y1⟩:=C1.o _ B1.o;obtain⟨x2,y2⟩:=C2.o _ B1.o;clear hA e0 e1 e2;go_enter Tryz.func156,Tryz.ntmps156;go_wp2_with fail;clear z x0 y0 x1 y1 x2 y2;generalize w.alloc (.cells #[.int .i64 0,.string ⟨#[]⟩,.int .i64 0,.bool false] 37)=w1 at K1 B1⊢
 have KC:=q_ (fun(W:World) (h:Below w.heap.size w W)=>pad_any v0.text v2.text v1.num W O0.o.text O2.o.text ⟨by have:=O1.o.lo;omega,by have:=O1.o.hi;omega⟩);have KT:=q_ (fun k (h:M.pad v0.text v1.num v2.text= .error k)=>pad_err h);cases hr:M.pad v0.text v1.num v2.text with
 |error k=>
  have HK:=q_ (KT.o k hr);rw[hr] at KC HE;rw[toldE_err] at KC;clear hr KT;refine wp_region_genP (KP:=fun ch w5=>panE k= .panicked ch/\Below w.heap.size w w5) 16 [] (ErrI w1 15) (by kernel_rfl) (by kernel_rfl) (ErrI.start w1 15) (fun ch a2 w5 hd hk=>⟨hd,by rw[HE.o];exact hk.1.symm,hk.2⟩) ?_
  iterate 15
   apply wpGenP_pure rfl
   ·intro L vs wx hI hR hL K hK
    first
    |have c0:=(HA.o.below (B1.o.trans (hI.below.mono B1.o.size))).blk.cell
     go_simp;exact hK _ (hI.pure (by decide))
    |have c0:=(C0.o _ (B1.o.trans (hI.below.mono B1.o.size))).1
     go_simp;exact hK _ (hI.pure (by decide))
    |have c0:=(C1.o _ (B1.o.trans (hI.below.mono B1.o.size))).2
     go_simp;exact hK _ (hI.pure (by decide))
    |have c0:=(C2.o _ (B1.o.trans (hI.below.mono B1.o.size))).1
     go_simp;exact hK _ (hI.pure (by decide))
    |go_simp
     exact(KC.o _ (B1.o.trans (hI.below.mono B1.o.size))).mono fun e w' ⟨h1,h2⟩=> .inl ⟨_,h1,hK _ (hI.on h2 (by decide))⟩
   intro KK hKK;go_simp;refine hKK _ ?_;clear hKK KK
  refine wpGenP_pure (v:=undef) rfl ?_ ?_
  ·intro L vs wx hI hR hL K hK
   go_simp;exact(told_any (.error k) ⟨#[]⟩ k (.inr ⟨rfl,HK.o⟩) wx).mono fun e w' ⟨he,hb⟩=> .inr ⟨_,he,rfl,(B1.o.trans (hI.below.mono B1.o.size)).trans (hb.mono (Nat.le_trans B1.o.size hI.below.size))⟩
  intro KK hKK;go_simp;refine hKK _ ?_;clear hKK KK;refine wpGenP_nil ?_;intro vs w5 hI;exact absurd hI.no (by decide)
 |ok t=>
  rw[hr] at KC HE;rw[toldE_ok] at KC;clear hr KT;refine wp_region_genP (KP:=fun _ _=>False) 16 [] (NewI w1) (by kernel_rfl) (by kernel_rfl) (NewI.start w1) (fun ch a2 w5 hd hk=>hk.elim) ?_
  iterate 16
   apply wpGenP_pure rfl
   ·intro L vs wx hI hR hL K hK
    first
    |have c0:=(HA.o.below (B1.o.trans (hI.mono B1.o.size))).blk.cell
     go_simp;exact hK _ hI
    |have c0:=(C0.o _ (B1.o.trans (hI.mono B1.o.size))).1
     go_simp;exact hK _ hI
    |have c0:=(C1.o _ (B1.o.trans (hI.mono B1.o.size))).2
     go_simp;exact hK _ hI
    |have c0:=(C2.o _ (B1.o.trans (hI.mono B1.o.size))).1
     go_simp;exact hK _ hI
    |go_simp
     exact(KC.o _ (B1.o.trans (hI.mono B1.o.size))).mono fun e w' ⟨h1,h2⟩=>⟨_,h1,hK _ (hI.trans (h2.mono hI.size))⟩
    |go_simp
     exact(told_any (.ok t) t 0 (.inl ⟨rfl,rfl⟩) _).mono fun e w' ⟨h1,h2⟩=>⟨_,h1,hK _ (hI.trans (h2.mono hI.size))⟩
   intro KK hKK;go_simp;refine hKK _ ?_;clear hKK KK
  refine wpGenP_nil ?_;intro vs w2 hI;have B2:=q_ (B1.o.trans (hI.mono B1.o.size));have K2:=q_ (K1.o.below hI K1.o.lt);clear hI;intro KK hKK;have hKN:=fun a w h=>hKK .normal a w h;simp only[List.drop_succ_cons];refine wpList_store_V rfl (.tmp 1) (.tmp 17) rfl w.heap.size (M.vText t) (by rfl) (by rfl) (K2.o) rfl ?_;intro w9 k9 g9;have K9:=q_ k9;have B9:=q_ (below_gr B2.o g9 (n_));clear k9 g9;go_wp2_with fail
  (try simp only[Exit.inBlock,Exit.then]);exact bodyPost_ret (val_res rfl K9.o rfl) rfl ⟨by rw[HE.o];rfl,B9.o⟩
end Go.Proofs.YtnocnbklhikmnaaGreatDoor
