/- Part 27 of the proof. -/
import Derived.Test.YtnocnbklhikmnaaGreatDoorW17
import Derived.Deep.Cut
import Derived.Deep.DeepCutAuto
import Derived.Laws.ResultCell
set_option linter.unusedVariables false
set_option maxRecDepth 1000000
set_option maxHeartbeats 16000000
namespace Go.Proofs.YtnocnbklhikmnaaGreatDoor
open Go Go.RowKit Go.BigFrame
theorem sclone_any(s:ByteArray)(w:World)(hs:s.size<=281474976710656):
 Calls Tryz.prog 47 #[.string s] w fun e w'=>e= .returned (.string s)/\Below w.heap.size w w':=by
 have K:=q_ (Tryz.stringslite_Clone s w hs);go_enter Tryz.func47,Tryz.ntmps47;go_wp2_with fail;refine K.o.mono ?_;rintro e w' ⟨rfl,hb⟩;go_wp2_with fail;go_ret;exact⟨rfl,hb⟩
def PathC(cs:List Value):Prop:=∃(s:ByteArray) (a b c d e:Int),cs=[.string s,.int .i64 a,.int .i64 b,.int .i64 c,.int .i64 d,.int .i64 e]
namespace Ad
def numS(o e:Bs)(x:Bs×Bool):Bs×Bool:=numR o e x.1 x.2
def pathU(x:Bs×Bool):Bs×Bool:=if Lib.hasPrefix x.1 [46]=true then numS [46] [] (numS [46] [] x) else x
def pathT(x:Bs×Bool):Bs×Bool:=if Lib.hasPrefix x.1 [45]=true then pathU (numS [91] [93] (numS [45] [] x)) else x
def pathX(l:Bs):Bs×Bool:=pathT (numS [91] [93] (l.drop (min 3 l.length),false))
def pathOk(l:Bs):Bool:= !(pathX l).2&&(pathX l).1.isEmpty&&isSeg (l.take (min 3 l.length))
def updP(v:Nat->Int)(i:Nat)(n:Int):Nat->Int:=fun j=>if j=i then n else v j
def pathUv(x:Bs×Bool)(v:Nat->Int):Nat->Int:=if Lib.hasPrefix x.1 [46]=true then updP (updP v 4 (numW [46] x.1)) 5 (numW [46] (numS [46] [] x).1) else v
def pathTv(x:Bs×Bool)(v:Nat->Int):Nat->Int:=if Lib.hasPrefix x.1 [45]=true then pathUv (numS [91] [93] (numS [45] [] x)) (updP (updP (updP (updP v 2 (numW [45] x.1)) 3 (numW [91] (numS [45] [] x).1)) 4 1) 5 1) else v
def pathV(l:Bs):Nat->Int:=pathTv (numS [91] [93] (l.drop (min 3 l.length),false)) (updP (fun _=>0) 1 (numW [91] (l.drop (min 3 l.length))))
theorem numS_len{o e:Bs}{x:Bs×Bool}{n:Nat}(h:x.1.length<=n):(numS o e x).1.length<=n:=Nat.le_trans (numR_len o e x.1 x.2) h
end Ad
structure PSt(w wx:World)(g0 g1 g2:Nat)(sg:ByteArray)(x:Ad.Bs×Bool)(v:Nat->Int):Prop where
 res:Blk wx g0 135 #[.string ⟨#[]⟩,.int .i64 0,.int .i64 0,.int .i64 0,.int .i64 0,.int .i64 0]
 path:Blk wx g1 135 #[.string sg,.int .i64 (v 1),.int .i64 (v 2),.int .i64 (v 3),.int .i64 (v 4),.int .i64 (v 5)]
 rd:RdAt wx g2 x
 len:x.1.length<=1000000
 bel:Below w.heap.size w wx
section
variable {w wx wy:World} {g0 g1 g2:Nat} {sg:ByteArray} {x:Ad.Bs×Bool} {v:Nat->Int}
theorem PSt.num{o e:Ad.Bs}(h:PSt w wx g0 g1 g2 sg x v)(ho:Only g2 wx wy)(hr:RdAt wy g2 (Ad.numS o e x))(h0:g0≠g2)(h1:g1≠g2)(hB:w.heap.size<=g2):PSt w wy g0 g1 g2 sg (Ad.numS o e x) v:=by
 obtain⟨r,hp,_,hl,hb⟩:=h;exact⟨ho.blk r h0,ho.blk hp h1,hr,Ad.numS_len hl,hb.trans (ho.below hB)⟩
theorem PSt.read(h:PSt w wx g0 g1 g2 sg x v):∃r:ByteArray,r.data.toList=x.1/\r.size<=1000000/\Blk wx g2 283 #[.string r,.bool x.2]:=
 ⟨⟨x.1.toArray⟩,rfl,by rw[mk_size];exact h.len,h.rd⟩
theorem PSt.calls(h:PSt w wx g0 g1 g2 sg x v)(o e:ByteArray):Calls Tryz.prog 249 #[.pointer (some ⟨g2,0,none⟩),.string o,.string e] wx fun u w'=>u= .returned (.int .i64 (Ad.numW o.data.toList x.1))/\RdAt w' g2 (Ad.numS o.data.toList e.data.toList x)/\Only g2 wx w':=by
 obtain⟨r,h1,h2,h3⟩:=h.read;unfold Ad.numS;rw[<-h1];exact pnum_any g2 r o e x.2 wx h3 h2
theorem PSt.put(h:PSt w wx g0 g1 g2 sg x v)(i:Nat)(n:Int)(hi:1<=i/\i<=5)(h0:g0≠g1)(h1:g2≠g1)(hB:w.heap.size<=g1):PSt w (wx.setCell ⟨g1,i,none⟩ (.int .i64 n)) g0 g1 g2 sg x (Ad.updP v i n):=by
 obtain⟨r,hp,hr,hl,hb⟩:=h;refine⟨r.far (by simpa using h0) _,?_,Blk.far hr (by simpa using h1) _,hl,hb.setCell hB _⟩;have hx:=hp.set_ i (.int .i64 n);rcases(by omega:i=1\/i=2\/i=3\/i=4\/i=5) with rfl|rfl|rfl|rfl|rfl<;>simpa[Ad.updP] using hx
end
theorem path_res{W:World}{tmps:Array Value}{g er:_}{s:ByteArray}{a b c d e:Int}(hW:Blk W g 135 #[.string s,.int .i64 a,.int .i64 b,.int .i64 c,.int .i64 d,.int .i64 e])(h2:tmps.getD 2 undef= .pointer (some ⟨g,0,none⟩))(h3:tmps.getD 3 undef=er):
 (results Tryz.f218 tmps).run Tryz.prog W= .ok (.tuple #[.agg #[.string s,.int .i64 a,.int .i64 b,.int .i64 c,.int .i64 d,.int .i64 e],er]) W:=by
 rw[results_cell_tmp rfl,h2,h3];have c0:=hW.cell;simp[go_sem,c0]
def pathCs(l:Ad.Bs):List Value:=[.string ⟨(l.take (min 3 l.length)).toArray⟩,.int .i64 (Ad.pathV l 1),.int .i64 (Ad.pathV l 2),.int .i64 (Ad.pathV l 3),.int .i64 (Ad.pathV l 4),.int .i64 (Ad.pathV l 5)]
def PathOut(l:Ad.Bs)(e:Ending):Prop:=∃cs er,PathC cs/\(er=0<->Ad.pathOk l=true)/\(er=0->cs=pathCs l)/\e= .returned (.tuple #[.agg cs.toArray,.int .i64 er])
theorem path_out{l:Ad.Bs}(t:ByteArray)(a b c d e:Int){er:Value}(n:Int)(he:er= .int .i64 n)(h:n=0<->Ad.pathOk l=true)(hx:n=0->[.string t,.int .i64 a,.int .i64 b,.int .i64 c,.int .i64 d,.int .i64 e]=pathCs l):PathOut l (.returned (.tuple #[.agg #[.string t,.int .i64 a,.int .i64 b,.int .i64 c,.int .i64 d,.int .i64 e],er])):=
 ⟨_,n,⟨t,a,b,c,d,e,rfl⟩,h,hx,by rw[he]⟩
theorem pathParse_any(s:ByteArray)(w:World)(hs:s.size<=1000000):
 Calls Tryz.prog 218 #[.string s] w fun e w'=>PathOut s.data.toList e/\Below w.heap.size w w':=by
 have hmin:(min 3 (s.size:Int)).toNat=min 3 s.data.toList.length:=by rw[len_size];omega
 have hseg:(s.extract 0 (min 3 (s.size:Int)).toNat).data.toList=s.data.toList.take (min 3 s.data.toList.length):=by rw[ext_to,hmin]
 have hrest:(s.extract (min 3 (s.size:Int)).toNat s.size).data.toList=s.data.toList.drop (min 3 s.data.toList.length):=by rw[ext_end,hmin]
 have HOK:=q_ (show Ad.pathOk s.data.toList=(!(Ad.pathT (Ad.numS [91] [93] ((s.extract (min 3 (s.size:Int)).toNat s.size).data.toList,false))).2&&(Ad.pathT (Ad.numS [91] [93] ((s.extract (min 3 (s.size:Int)).toNat s.size).data.toList,false))).1.isEmpty&&Ad.isSeg (s.extract 0 (min 3 (s.size:Int)).toNat).data.toList) from by unfold Ad.pathOk Ad.pathX;rw[hseg,hrest]);obtain⟨n1,hn1⟩:∃n1,Ad.numW [91] (s.extract (min 3 (s.size:Int)).toNat s.size).data.toList=n1:=⟨_,rfl⟩
 have HVX:=q_ (show pathCs s.data.toList=[.string (s.extract 0 (min 3 (s.size:Int)).toNat),.int .i64 (Ad.pathTv (Ad.numS [91] [93] ((s.extract (min 3 (s.size:Int)).toNat s.size).data.toList,false)) (Ad.updP (fun _=>0) 1 n1) 1),.int .i64 (Ad.pathTv (Ad.numS [91] [93] ((s.extract (min 3 (s.size:Int)).toNat s.size).data.toList,false)) (Ad.updP (fun _=>0) 1 n1) 2),.int .i64 (Ad.pathTv (Ad.numS [91] [93] ((s.extract (min 3 (s.size:Int)).toNat s.size).data.toList,false)) (Ad.updP (fun _=>0) 1 n1) 3),.int .i64 (Ad.pathTv (Ad.numS [91] [93] ((s.extract (min 3 (s.size:Int)).toNat s.size).data.toList,false)) (Ad.updP (fun _=>0) 1 n1) 4),.int .i64 (Ad.pathTv (Ad.numS [91] [93] ((s.extract (min 3 (s.size:Int)).toNat s.size).data.toList,false)) (Ad.updP (fun _=>0) 1 n1) 5)] from by unfold pathCs Ad.pathV;rw[<-hseg,<-hrest,hn1,bytes_back]);clear hmin hseg hrest;have HTS:=q_ (show(s.extract 0 (min 3 (s.size:Int)).toNat).size<=1000000 by rw[ByteArray.size_extract];omega);have K1:=q_ (sclone_any (s.extract 0 (min 3 (s.size:Int)).toNat) (w.alloc (.cells #[.string ⟨#[]⟩,.int .i64 0,.int .i64 0,.int .i64 0,.int .i64 0,.int .i64 0] 135)) (by rw[ByteArray.size_extract];omega))
 go_enter Tryz.func218,Tryz.ntmps218;go_wp2_with fail;refine K1.o.mono ?_;rintro e w1 ⟨rfl,hb1⟩;have HB1:=q_ hb1;have HR:=q_ ((Blk.new w 135 #[.string ⟨#[]⟩,.int .i64 0,.int .i64 0,.int .i64 0,.int .i64 0,.int .i64 0]).below hb1 (by simp));have K2:=q_ ((pnum_any (w1.heap.size+1) (s.extract (min 3 (s.size:Int)).toNat s.size) ⟨#[91]⟩ ⟨#[93]⟩ false ((w1.alloc (.cells #[.string (s.extract 0 (min 3 (s.size:Int)).toNat),.int .i64 0,.int .i64 0,.int .i64 0,.int .i64 0,.int .i64 0] 135)).alloc (.cells #[.string (s.extract (min 3 (s.size:Int)).toNat s.size),.bool false] 283)) (by simpa using Blk.new (w1.alloc (.cells #[.string (s.extract 0 (min 3 (s.size:Int)).toNat),.int .i64 0,.int .i64 0,.int .i64 0,.int .i64 0,.int .i64 0] 135)) 283 #[.string (s.extract (min 3 (s.size:Int)).toNat s.size),.bool false]) (by rw[ByteArray.size_extract];omega)).mono fun x w' h=>And.intro (h.1.trans (congrArg (fun z=>Ending.returned (.int .i64 z)) hn1)) h.2);have hw1:w.heap.size+1<=w1.heap.size:=by have:=hb1.size;simpa using this
 have HP0:=q_ (show PSt w ((w1.alloc (.cells #[.string (s.extract 0 (min 3 (s.size:Int)).toNat),.int .i64 0,.int .i64 0,.int .i64 0,.int .i64 0,.int .i64 0] 135)).alloc (.cells #[.string (s.extract (min 3 (s.size:Int)).toNat s.size),.bool false] 283)) w.heap.size w1.heap.size (w1.heap.size+1) (s.extract 0 (min 3 (s.size:Int)).toNat) ((s.extract (min 3 (s.size:Int)).toNat s.size).data.toList,false) (fun _=>0) from
  ⟨(HR.o.alloc _).alloc _,(Blk.new w1 _ _).alloc _,by
   unfold RdAt;rw[bytes_back];simpa using Blk.new (w1.alloc (.cells #[.string (s.extract 0 (min 3 (s.size:Int)).toNat),.int .i64 0,.int .i64 0,.int .i64 0,.int .i64 0,.int .i64 0] 135)) 283 #[.string (s.extract (min 3 (s.size:Int)).toNat s.size),.bool false],by rw[len_size,ByteArray.size_extract];omega,
   ((((Below.refl _ w).alloc (n_) _).trans (hb1.mono (by simp))).alloc (by omega) _).alloc (by simp;omega) _⟩)
 clear hb1 K1 HB1 HR;go_upto_region 4 with fail;go_cut [] (fun wx=>PSt w wx w.heap.size w1.heap.size (w1.heap.size+1) (s.extract 0 (min 3 (s.size:Int)).toNat) (Ad.numS [91] [93] ((s.extract (min 3 (s.size:Int)).toNat s.size).data.toList,false)) (Ad.updP (fun _=>0) 1 n1))
 case first=>
  go_wp2_with fail;refine K2.o.mono ?_;rintro x w2 ⟨rfl,hrd,honly⟩;have hP:=HP0.o.num (o:=[91]) (e:=[93]) honly hrd (by omega) (by omega) (by omega);have HP:=q_ hP;have hb:=hP.path;have c1:w2.cell? ⟨w1.heap.size,1,none⟩=some (.int .i64 _):=hb.cell 1;have f1:=hb.frozen 1;clear hb hP hrd honly K2;go_wp2_with fail;go_meet;exact HP.o.put 1 _ (by omega) (by omega) (by omega) (by omega)
 case rest=>
  generalize w1.heap.size=g1 at*;have HP:=q_ hcut;clear hcut HP0 K2;generalize Ad.numS [91] [93] ((s.extract (min 3 (s.size:Int)).toNat s.size).data.toList,false)=x1 at*;generalize Ad.updP (fun _=>0) 1 n1=v1 at*;obtain⟨s2,hs2,-,hr2⟩:=HP.o.read;have c0:wc.cell? ⟨g1+1,0,none⟩=some (.string s2):=hr2.cell 0;clear hr2;obtain⟨q,hq⟩:∃q,Lib.hasPrefix x1.1 [45]=q:=⟨_,rfl⟩
  have HQ:=q_ (show Lib.hasPrefix s2.data.toList (⟨#[45]⟩:ByteArray).data.toList=q from by rw[hs2];exact hq);clear hs2;have HT:=q_ (show Ad.pathT x1=if q=true then Ad.pathU (Ad.numS [91] [93] (Ad.numS [45] [] x1)) else x1 from by unfold Ad.pathT;rw[hq]);have HTV:=q_ (show Ad.pathTv x1 v1=if q=true then Ad.pathUv (Ad.numS [91] [93] (Ad.numS [45] [] x1)) (Ad.updP (Ad.updP (Ad.updP (Ad.updP v1 2 (Ad.numW [45] x1.1)) 3 (Ad.numW [91] (Ad.numS [45] [] x1).1)) 4 1) 5 1) else v1 from by unfold Ad.pathTv;rw[hq]);clear hq;go_upto_if 27 with(go_at_call 42;refine(Tryz.strings_HasPrefix s2 ⟨#[45]⟩ wc).mono ?_;rintro e wc ⟨rfl,rfl⟩;rw[HQ.o])
  go_cut [] (fun wx=>PSt w wx w.heap.size g1 (g1+1) (s.extract 0 (min 3 (s.size:Int)).toNat) (Ad.pathT x1) (Ad.pathTv x1 v1))
  case first=>
   cases q with
   |false=>
    go_wp2_with fail;go_meet;rw[show Ad.pathT x1=x1 from HT.o,show Ad.pathTv x1 v1=v1 from HTV.o];exact HP.o
   |true=>
    have HT:=q_ (show Ad.pathT x1=Ad.pathU (Ad.numS [91] [93] (Ad.numS [45] [] x1)) from HT.o);have HTV:=q_ (show Ad.pathTv x1 v1=Ad.pathUv (Ad.numS [91] [93] (Ad.numS [45] [] x1)) (Ad.updP (Ad.updP (Ad.updP (Ad.updP v1 2 (Ad.numW [45] x1.1)) 3 (Ad.numW [91] (Ad.numS [45] [] x1).1)) 4 1) 5 1) from HTV.o);go_upto_region 6 with fail;go_cut [] (fun wx=>PSt w wx w.heap.size g1 (g1+1) (s.extract 0 (min 3 (s.size:Int)).toNat) (Ad.numS [45] [] x1) (Ad.updP v1 2 (Ad.numW [45] x1.1)))
    case first=>
     have KN:=q_ (HP.o.calls ⟨#[45]⟩ ⟨#[]⟩);go_wp2_with fail;refine KN.o.mono ?_;rintro x w3 ⟨rfl,hrd,honly⟩;have hP:=HP.o.num (o:=[45]) (e:=[]) honly hrd (by omega) (by omega) (by omega);have HP3:=q_ hP;have hb:=hP.path;have cf:w3.cell? ⟨g1,2,none⟩=some (.int .i64 _):=hb.cell 2;have ff:=hb.frozen 2;clear hb hP hrd honly KN;go_wp2_with fail;go_meet;exact HP3.o.put 2 _ (by omega) (by omega) (by omega) (by omega)
    case rest=>
     have HP:=q_ hcut;clear hcut;go_upto_region 7 with fail;go_cut [] (fun wx=>PSt w wx w.heap.size g1 (g1+1) (s.extract 0 (min 3 (s.size:Int)).toNat) (Ad.numS [91] [93] (Ad.numS [45] [] x1)) (Ad.updP (Ad.updP v1 2 (Ad.numW [45] x1.1)) 3 (Ad.numW [91] (Ad.numS [45] [] x1).1)))
     case first=>
      have KN:=q_ (HP.o.calls ⟨#[91]⟩ ⟨#[93]⟩);go_wp2_with fail;refine KN.o.mono ?_;rintro x w3 ⟨rfl,hrd,honly⟩;have hP:=HP.o.num (o:=[91]) (e:=[93]) honly hrd (by omega) (by omega) (by omega);have HP3:=q_ hP;have hb:=hP.path;have cf:w3.cell? ⟨g1,3,none⟩=some (.int .i64 _):=hb.cell 3;have ff:=hb.frozen 3;clear hb hP hrd honly KN;go_wp2_with fail;go_meet;exact HP3.o.put 3 _ (by omega) (by omega) (by omega) (by omega)
     case rest=>
      have HP:=q_ hcut;clear hcut;generalize Ad.numS [91] [93] (Ad.numS [45] [] x1)=x2 at*;generalize Ad.updP (Ad.updP v1 2 (Ad.numW [45] x1.1)) 3 (Ad.numW [91] (Ad.numS [45] [] x1).1)=v2 at*;go_upto_region 8 with fail;go_cut [] (fun wx=>PSt w wx w.heap.size g1 (g1+1) (s.extract 0 (min 3 (s.size:Int)).toNat) x2 (Ad.updP (Ad.updP v2 4 1) 5 1))
      case first=>
       have hb:=HP.o.path;have c4:wc.cell? ⟨g1,4,none⟩=some (.int .i64 _):=hb.cell 4;have f4:=hb.frozen 4;have c5:wc.cell? ⟨g1,5,none⟩=some (.int .i64 _):=hb.cell 5;have f5:=hb.frozen 5;clear hb;go_wp2_with fail;go_meet;exact(HP.o.put 4 1 (by omega) (by omega) (by omega) (by omega)).put 5 1 (by omega) (by omega) (by omega) (by omega)
      case rest=>
       have HP:=q_ hcut;clear hcut;obtain⟨s2,hs2,-,hr2⟩:=HP.o.read;have c0:wc.cell? ⟨g1+1,0,none⟩=some (.string s2):=hr2.cell 0;clear hr2;generalize Ad.updP (Ad.updP v2 4 1) 5 1=v3 at*;obtain⟨q,hq⟩:∃q,Lib.hasPrefix x2.1 [46]=q:=⟨_,rfl⟩
       have HQ:=q_ (show Lib.hasPrefix s2.data.toList (⟨#[46]⟩:ByteArray).data.toList=q from by rw[hs2];exact hq);clear hs2;have HU:=q_ (show Ad.pathT x1=if q=true then Ad.numS [46] [] (Ad.numS [46] [] x2) else x2 from by rw[HT.o];unfold Ad.pathU;rw[hq]);have HUV:=q_ (show Ad.pathTv x1 v1=if q=true then Ad.updP (Ad.updP v3 4 (Ad.numW [46] x2.1)) 5 (Ad.numW [46] (Ad.numS [46] [] x2).1) else v3 from by rw[HTV.o];unfold Ad.pathUv;rw[hq]);clear hq HT HTV;go_upto_if 40 with(go_at_call 42;refine(Tryz.strings_HasPrefix s2 ⟨#[46]⟩ wc).mono ?_;rintro e wc ⟨rfl,rfl⟩;rw[HQ.o])
       cases q with
       |false=>
        go_wp2_with fail;go_meet;rw[show Ad.pathT x1=x2 from HU.o,show Ad.pathTv x1 v1=v3 from HUV.o];exact HP.o
       |true=>
        have HU:=q_ (show Ad.pathT x1=Ad.numS [46] [] (Ad.numS [46] [] x2) from HU.o);have HUV:=q_ (show Ad.pathTv x1 v1=Ad.updP (Ad.updP v3 4 (Ad.numW [46] x2.1)) 5 (Ad.numW [46] (Ad.numS [46] [] x2).1) from HUV.o);go_upto_region 10 with fail;go_cut [] (fun wx=>PSt w wx w.heap.size g1 (g1+1) (s.extract 0 (min 3 (s.size:Int)).toNat) (Ad.numS [46] [] x2) (Ad.updP v3 4 (Ad.numW [46] x2.1)))
        case first=>
         have KN:=q_ (HP.o.calls ⟨#[46]⟩ ⟨#[]⟩);go_wp2_with fail;refine KN.o.mono ?_;rintro x w3 ⟨rfl,hrd,honly⟩;have hP:=HP.o.num (o:=[46]) (e:=[]) honly hrd (by omega) (by omega) (by omega);have HP3:=q_ hP;have hb:=hP.path;have cf:w3.cell? ⟨g1,4,none⟩=some (.int .i64 _):=hb.cell 4;have ff:=hb.frozen 4;clear hb hP hrd honly KN;go_wp2_with fail;go_meet;exact HP3.o.put 4 _ (by omega) (by omega) (by omega) (by omega)
        case rest=>
         have HP:=q_ hcut;clear hcut;have KN:=q_ (HP.o.calls ⟨#[46]⟩ ⟨#[]⟩);go_wp2_with fail;refine KN.o.mono ?_;rintro x w3 ⟨rfl,hrd,honly⟩;have hP:=HP.o.num (o:=[46]) (e:=[]) honly hrd (by omega) (by omega) (by omega);have HP3:=q_ hP;have hb:=hP.path;have cf:w3.cell? ⟨g1,5,none⟩=some (.int .i64 _):=hb.cell 5;have ff:=hb.frozen 5;clear hb hP hrd honly KN;go_wp2_with fail;go_meet;rw[HU.o,HUV.o];exact HP3.o.put 5 _ (by omega) (by omega) (by omega) (by omega)
  case rest=>
   have HP:=q_ hcut;clear hcut HT HTV;generalize Ad.pathT x1=x3 at*;generalize Ad.pathTv x1 v1=v4 at*;obtain⟨l2,bad2⟩:=x3;generalize (s.extract 0 (min 3 (s.size:Int)).toNat)=t at*;have hb:=HP.o.path;obtain⟨s2,hs2,-,hr2⟩:=HP.o.read;simp only at hs2 hr2;have HL2:=q_ (show s2.toList.isEmpty=l2.isEmpty from by rw[ByteArray.toList_eq,hs2]);clear hs2;have hres:=HP.o.res;have hbel:=HP.o.bel;have hts:t.size<=1000000:=HTS.o;have b0:wc.cell? ⟨g1+1,0,none⟩=some (.string s2):=hr2.cell 0;have b1:wc.cell? ⟨g1+1,1,none⟩=some (.bool bad2):=hr2.cell 1;have p0:wc.cell? ⟨g1,0,none⟩=some (.string t):=hb.cell 0;have r0:=hres.cell;have q0:=hres.frozen;clear hr2;generalize v4 1=a at hb HVX;generalize v4 2=b at hb HVX;generalize v4 3=c at hb HVX;generalize v4 4=d at hb HVX;generalize v4 5=e at hb HVX;have hW:=(((((hres.set_ 0 (.string ⟨#[]⟩)).set_ 1 (.int .i64 0)).set_ 2 (.int .i64 0)).set_ 3 (.int .i64 0)).set_ 4 (.int .i64 0)).set_ 5 (.int .i64 0)
   have hBW:=(((((hbel.setCell (p:=⟨w.heap.size,0,none⟩) (n_) (.string ⟨#[]⟩)).setCell (p:=⟨w.heap.size,1,none⟩) (n_) (.int .i64 0)).setCell (p:=⟨w.heap.size,2,none⟩) (n_) (.int .i64 0)).setCell (p:=⟨w.heap.size,3,none⟩) (n_) (.int .i64 0)).setCell (p:=⟨w.heap.size,4,none⟩) (n_) (.int .i64 0)).setCell (p:=⟨w.heap.size,5,none⟩) (n_) (.int .i64 0);have HW:=q_ hW;have HBW:=q_ hBW;clear hW hBW;cases bad2 with
   |true=>
    go_wp2_with fail;refine bodyPost_ret (path_res HW.o rfl rfl) rfl ⟨path_out _ _ _ _ _ _ _ rfl (by rw[HOK.o];simp) (fun h=>absurd h (by decide)),HBW.o⟩
   |false=>
    cases he:s2.toList.isEmpty with
    |false=>
     have HE:=q_ (show l2.isEmpty=false from HL2.o.symm.trans he);go_wp2_with fail;refine bodyPost_ret (path_res HW.o rfl rfl) rfl ⟨path_out _ _ _ _ _ _ _ rfl (by rw[HOK.o,HE.o];simp) (fun h=>absurd h (by decide)),HBW.o⟩
    |true=>
     have HE:=q_ (show l2.isEmpty=true from HL2.o.symm.trans he);have KT:=tokName_any t wc hts;generalize Ad.isSeg t.data.toList=v at*;have KT:=q_ KT;have HB:=q_ hb;go_wp2_with fail;refine KT.o.mono ?_;rintro x w4 ⟨rfl,hb4⟩;have hres4:=hres.below hb4 hres.lt;have hbel4:=hbel.trans (hb4.mono hbel.size);have hp4:=HB.o.below hb4 HB.o.lt;have r0:=hres4.cell;have q0:=hres4.frozen;have p0:w4.cell? ⟨g1,0,none⟩=some (.string t):=hp4.cell 0;have p1:w4.cell? ⟨g1,1,none⟩=some (.int .i64 a):=hp4.cell 1;have p2:w4.cell? ⟨g1,2,none⟩=some (.int .i64 b):=hp4.cell 2;have p3:w4.cell? ⟨g1,3,none⟩=some (.int .i64 c):=hp4.cell 3;have p4:w4.cell? ⟨g1,4,none⟩=some (.int .i64 d):=hp4.cell 4;have p5:w4.cell? ⟨g1,5,none⟩=some (.int .i64 e):=hp4.cell 5;clear hb4 hb HW HBW;cases v with
     |false=>
      have hW:=(((((hres4.set_ 0 (.string ⟨#[]⟩)).set_ 1 (.int .i64 0)).set_ 2 (.int .i64 0)).set_ 3 (.int .i64 0)).set_ 4 (.int .i64 0)).set_ 5 (.int .i64 0);have hBW:=(((((hbel4.setCell (p:=⟨w.heap.size,0,none⟩) (n_) (.string ⟨#[]⟩)).setCell (p:=⟨w.heap.size,1,none⟩) (n_) (.int .i64 0)).setCell (p:=⟨w.heap.size,2,none⟩) (n_) (.int .i64 0)).setCell (p:=⟨w.heap.size,3,none⟩) (n_) (.int .i64 0)).setCell (p:=⟨w.heap.size,4,none⟩) (n_) (.int .i64 0)).setCell (p:=⟨w.heap.size,5,none⟩) (n_) (.int .i64 0);have HW:=q_ hW;have HBW:=q_ hBW;clear hW hBW;go_wp2_with fail;refine bodyPost_ret (path_res HW.o rfl rfl) rfl ⟨path_out _ _ _ _ _ _ _ rfl (by rw[HOK.o,HE.o];simp) (fun h=>absurd h (by decide)),HBW.o⟩
     |true=>
      have hW:=(((((hres4.set_ 0 (.string t)).set_ 1 (.int .i64 a)).set_ 2 (.int .i64 b)).set_ 3 (.int .i64 c)).set_ 4 (.int .i64 d)).set_ 5 (.int .i64 e);have hBW:=(((((hbel4.setCell (p:=⟨w.heap.size,0,none⟩) (n_) (.string t)).setCell (p:=⟨w.heap.size,1,none⟩) (n_) (.int .i64 a)).setCell (p:=⟨w.heap.size,2,none⟩) (n_) (.int .i64 b)).setCell (p:=⟨w.heap.size,3,none⟩) (n_) (.int .i64 c)).setCell (p:=⟨w.heap.size,4,none⟩) (n_) (.int .i64 d)).setCell (p:=⟨w.heap.size,5,none⟩) (n_) (.int .i64 e);have HW:=q_ hW;have HBW:=q_ hBW;clear hW hBW;go_wp2_with fail;refine bodyPost_ret (path_res HW.o rfl rfl) rfl ⟨path_out _ _ _ _ _ _ _ rfl (by rw[HOK.o,HE.o];simp) (fun _=>HVX.o.symm),HBW.o⟩
end Go.Proofs.YtnocnbklhikmnaaGreatDoor
