/- What SameLegs and SameTexts say of lists and their like; light. -/
import Derived.Test.YtemjipongehjlaaGreatL12
import Derived.Test.YtemjipongehjlaaGreatL11
import Derived.Test.YtemjipongehjlaaGreatL9
namespace Go.Proofs.YtemjipongehjlaaGreat
set_option linter.unusedVariables false
open Go.RowKit Go.BigFrame
theorem eql_leg (l : P.Leg) (W : World) : (binOp .eql 69 (.agg #[.string l.name, .int .i64 l.status, .int .i64 l.tries, .int .i64 l.due, .string l.payload, .string l.reply]) (.agg #[.string l.name, .int .i64 l.status, .int .i64 l.tries, .int .i64 l.due, .string l.payload, .string l.reply])).run Tryz.prog W = .ok (.bool true) W := by
  obtain ⟨g0, g1, g2, g3, g4, g5, hu, ⟨t0, o0, n0⟩, ⟨t1, o1, n1⟩, ⟨t2, o2, n2⟩, ⟨t3, o3, n3⟩, ⟨t4, o4, n4⟩, ⟨t5, o5, n5⟩⟩ := leg_fields
  have hf : Tryz.prog.fieldsOf 69 = #[g0, g1, g2, g3, g4, g5] := by simp [Program.fieldsOf, hu]
  rw [run_eql_struct, run_equalIn_struct W 9999 _ _ _ (by rw [hu, hf]) leg_held, hf]
  simp [Op.eqFields, n0, n1, n2, n3, n4, n5, t0, t1, t2, t3, t4, t5, o0, o1, o2, o3, o4, o5, go_sem]
set_option maxRecDepth 100000 in
set_option maxHeartbeats 4000000 in
theorem sameLegs_any (A : Option Addr) (m cp : Nat) (ls : List P.Leg) (Ab : Option Addr) (cpb : Nat) (B : Nat) (w : World)
    (ha : LegsAt w B A m ls) (hb : LegsAt w B Ab m ls) (hB : B ≤ w.heap.size) (hm : m ≤ maxLen) :
    Calls Tryz.prog 14 #[.slice A m cp, .slice Ab m cpb] w fun e w' => e = .returned (.bool true) ∧ Below w.heap.size w w' := by
  unfold maxLen at hm
  have HA := Lib.hid ha
  have HBB := Lib.hid hb
  have t8 : ((m : Int) != (m : Int)) = false := by simp
  clear ha hb
  go_enter Tryz.func14, Tryz.ntmps14
  go_wp2_with fail
  clear t8
  go_loopw [5] (fun x wr => ∃ k : Nat, k ≤ m ∧ x = .int .i64 k ∧ Below w.heap.size w wr) (fun x _ => m - (intOf x).toNat)
  case atStart => exact ⟨0, by omega, rfl, Below.refl _ _⟩
  case round =>
    obtain ⟨k, hk, rfl, hbel⟩ := hrel
    have HB := Lib.hid hbel
    clear hbel
    by_cases hlt : k < m
    · have v1 : decide ((k : Int) < (m : Int)) = true := by simp; omega
      obtain ⟨ad, x, rfl, hxb, hxk, x0, x1, x2, x3, x4, x5⟩ := (HA.out.below (HB.out.mono hB)).in_ hlt
      obtain ⟨ad2, y, rfl, hyb, hyk, y0, y1, y2, y3, y4, y5⟩ := (HBB.out.below (HB.out.mono hB)).in_ hlt
      obtain rfl : y = x := Option.some.inj (hyk.symm.trans hxk)
      have nq := fun W => eql_leg y W
      clear hxk hyk hxb hyb
      go_wp2_with fail
      go_quiet (fail)
      go_wp2
      go_roundw
      case rel => exact ⟨k + 1, by omega, by go_num, below_drewN HB.out _⟩
      case measure => simp [intOf]; omega
    · have v1 : decide ((k : Int) < (m : Int)) = false := by simp; omega
      go_wp2
      go_ret
      exact ⟨rfl, HB.out⟩
set_option maxRecDepth 100000 in
set_option maxHeartbeats 4000000 in
theorem sameTexts_any (A : Option Addr) (m cp : Nat) (ls : List ByteArray) (Ab : Option Addr) (cpb : Nat) (B : Nat) (w : World)
    (ha : StrsAt w B A m ls) (hb : StrsAt w B Ab m ls) (hB : B ≤ w.heap.size) (hm : m ≤ maxLen) :
    Calls Tryz.prog 16 #[.slice A m cp, .slice Ab m cpb] w fun e w' => e = .returned (.bool true) ∧ Below w.heap.size w w' := by
  unfold maxLen at hm
  have HA := Lib.hid ha
  have HBB := Lib.hid hb
  have t8 : ((m : Int) != (m : Int)) = false := by simp
  clear ha hb
  go_enter Tryz.func16, Tryz.ntmps16
  go_wp2_with fail
  clear t8
  go_loopw [5] (fun x wr => ∃ k : Nat, k ≤ m ∧ x = .int .i64 k ∧ Below w.heap.size w wr) (fun x _ => m - (intOf x).toNat)
  case atStart => exact ⟨0, by omega, rfl, Below.refl _ _⟩
  case round =>
    obtain ⟨k, hk, rfl, hbel⟩ := hrel
    have HB := Lib.hid hbel
    clear hbel
    by_cases hlt : k < m
    · have v1 : decide ((k : Int) < (m : Int)) = true := by simp; omega
      obtain ⟨ad, x, rfl, hxb, hxk, hcx⟩ := (HA.out.below (HB.out.mono hB)).in_ hlt
      obtain ⟨ad2, y, rfl, hyb, hyk, hcy⟩ := (HBB.out.below (HB.out.mono hB)).in_ hlt
      obtain rfl : y = x := Option.some.inj (hyk.symm.trans hxk)
      have nq : (y.toList == y.toList) = true := by simp
      clear hxk hyk hxb hyb
      go_wp2_with fail
      go_quiet (fail)
      go_wp2
      go_roundw
      case rel => exact ⟨k + 1, by omega, by go_num, below_drewN HB.out _⟩
      case measure => simp [intOf]; omega
    · have v1 : decide ((k : Int) < (m : Int)) = false := by simp; omega
      go_wp2
      go_ret
      exact ⟨rfl, HB.out⟩
end Go.Proofs.YtemjipongehjlaaGreat
/- What LentTexts and StaysTexts return. -/
namespace Go.Proofs.YtemjipongehjlaaGreat
set_option linter.unusedVariables false
open Go.RowKit Go.BigFrame
def markText : ByteArray := ⟨#[109, 97, 114, 107]⟩
theorem wpList_append_strs {w : World} {ops : Array Oper} {rest : List Oper} {o : Oper} {a : Act} {Q : Exit → Act → World → Prop} (hgd : o.guard = none) (s x : Operand)
    (ho : o.op = .call { callee := .builtin .append, args := #[s, x], argTypes := #[29, 29] })
    (B : Nat) (v : Value) (l : List ByteArray) (hs : a.eval s = v) (hown : OwnS w B v l)
    (ad : Addr) (m c : Nat) (news : List ByteArray) (hx : a.eval x = .slice (some ad) m c) (hl : news.length = m) (hnews : ∀ j z, (news.map Value.string)[j]? = some z → w.cell? (ad.add j) = some z)
    (hbytes : l.length + m ≤ 8796093022208) (hbase : B ≤ w.heap.size)
    (h : ∀ v' w', OwnS w' B v' (l ++ news) → Below B w w' → wpList Tryz.prog ops Q rest (a.put o.dst v') w') : wpList Tryz.prog ops Q (o :: rest) a w := by
  obtain ⟨i, hi, hz, hs1, hb1⟩ := info_parts infoStr
  refine wpList_append_own w hgd s x 29 ho B 9 i (.string ByteArray.empty) 1 16 Tryz.underlying29 hi hz hs1 hb1 rfl (by omega) v l.length (l.map Value.string) hs hown ad m c (news.map Value.string) hx (by simp [hl])
    hnews (by intro z hz; obtain ⟨b, _, rfl⟩ := List.mem_map.1 hz; rfl) (by unfold maxLen; omega) (by omega) hbase ?_
  intro v' w' hown' hg _
  refine h v' w' ?_ ((Below.refl _ _).grown hg hbase (fun k hk => (World.ownsRow.lt hown k hk).1))
  unfold OwnS
  rw [List.length_append, List.map_append, hl]
  exact hown'
theorem OwnS.cap {w : World} {B g n c : Nat} {l : List ByteArray} (h : OwnS w B (.slice (some ⟨g, 0, none⟩) n c) l) : n ≤ c ∧ c ≤ maxLen := by
  rcases h.2 with ⟨h1, _⟩ | ⟨g', cap, cur, hv, _, _, hn, hm, _⟩
  · cases h1
  · injection hv with _ h2 h3
    subst h2 h3
    exact ⟨hn, hm⟩
theorem OwnS.near {w : World} {B : Nat} {v : Value} {l : List ByteArray} (h : OwnS w B v l) (hp : 0 < l.length) : ∃ g cap, v = .slice (some ⟨g, 0, none⟩) l.length cap ∧ l.length ≤ cap ∧ cap ≤ maxLen := by
  rcases h.2 with ⟨_, h1⟩ | ⟨g, cap, cur, hv, _, _, hn, hm, _⟩
  · omega
  · exact ⟨g, cap, hv, hn, hm⟩
def GivesLentS (w : World) (m : Nat) (l : List ByteArray) (x : Ending) (w' : World) : Prop :=
  ∃ g cap, x = .returned (.slice (some ⟨g, 0, none⟩) m cap) ∧ OwnS w' w.heap.size (.slice (some ⟨g, 0, none⟩) (m + 1) cap) (l ++ [markText]) ∧ Below w.heap.size w w'
set_option maxRecDepth 100000 in
set_option maxHeartbeats 2000000 in
theorem lentTexts_any (A : Option Addr) (m cp : Nat) (ls : List ByteArray) (B : Nat) (w : World) (h : StrsAt w B A m ls) (hA : A = none → m = 0 ∧ cp = 0) (hB : B ≤ w.heap.size) (hm : m ≤ 1000000) :
    Calls Tryz.prog 8 #[.slice A m cp] w (GivesLentS w m ls) := by
  have hl := h.len
  rcases A with _ | ad
  · obtain ⟨rfl, rfl⟩ := hA rfl
    have hls : ls = [] := List.eq_nil_of_length_eq_zero hl
    subst hls
    clear h hA hl
    go_enter Tryz.func8, Tryz.ntmps8
    go_wp2_with ((at_builtin; refine wpList_append_str1 rfl (.tmp 4) (.tmp 5) rfl w.heap.size (.slice none 0 0) [] rfl (OwnS.nil _ _) ⟨w.heap.size, 0, none⟩ markText rfl (newsS w 9 markText) (by simp) (by simp) ?_; intro v3 w3 hown3 hb3 hg3; obtain ⟨g, cap, hv, hc1, hc2⟩ := OwnS.near hown3 (by simp); subst hv; simp only [List.nil_append, List.length_append, List.length_cons, List.length_nil, Nat.zero_add] at hc1; have O3 := Lib.hid hown3; have B3 := Lib.hid (((Below.refl w.heap.size w).alloc (Nat.le_refl _) (.cells #[.string markText] 9)).trans hb3); unfold maxLen at hc2; clear hown3 hb3 hg3))
    go_ret
    exact ⟨g, cap, rfl, O3.out, B3.out⟩
  · have hc : ∀ j z, (ls.map Value.string)[j]? = some z → w.cell? (ad.add j) = some z := fun j z hz => by
      have hm1 : 0 < m := by
        rcases Nat.eq_zero_or_pos m with h0 | h0
        · rw [List.eq_nil_of_length_eq_zero (hl.trans h0)] at hz; simp at hz
        · exact h0
      obtain ⟨ad', e, hb', hcc⟩ := h.2 hm1
      cases e
      exact hcc j z hz
    have HL := Lib.hid hl
    have HC := Lib.hid hc
    clear h hA hl hc
    go_enter Tryz.func8, Tryz.ntmps8
    go_wp2_with (first | (at_builtin; refine wpList_append_strs rfl (.const (.slice none 0 0)) (.tmp 3) rfl w.heap.size (.slice none 0 0) [] rfl (OwnS.nil _ _) ad m cp ls rfl HL.out HC.out (by simp; omega) (by simp) ?_; intro v2 w2 hown hb'; have BO := Lib.hid hb'; have OW := Lib.hid hown; have z2 := hb'.size; clear hown hb') | (at_builtin; refine wpList_append_str1 rfl (.tmp 4) (.tmp 5) rfl w.heap.size v2 ([] ++ ls) rfl (OW.out.alloc (.cells #[.string markText] 9)) ⟨w2.heap.size, 0, none⟩ markText rfl (newsS w2 9 markText) (by have := HL.out; simp; omega) (by simp; omega) ?_; intro v3 w3 hown3 hb3 hg3; obtain ⟨g, cap, hv, hc1, hc2⟩ := OwnS.near hown3 (by simp); subst hv; simp only [List.nil_append, List.length_append, List.length_cons, List.length_nil, Nat.zero_add] at hc1 hown3; rw [HL.out] at hc1; have O3 := Lib.hid hown3; have B3 := Lib.hid ((BO.out.alloc (by omega) (.cells #[.string markText] 9)).trans hb3); unfold maxLen at hc2; clear hown3 hb3 hg3))
    trace_state
    go_ret
    exact ⟨g, cap, rfl, by have := O3.out; rw [HL.out] at this; exact this, B3.out⟩
end Go.Proofs.YtemjipongehjlaaGreat
/- What StaysTexts and light say. -/
namespace Go.Proofs.YtemjipongehjlaaGreat
set_option linter.unusedVariables false
open Go.RowKit Go.BigFrame
set_option maxRecDepth 100000 in
set_option maxHeartbeats 2000000 in
theorem staysTexts_any (g m cp : Nat) (ls : List ByteArray) (Ab : Option Addr) (cpb : Nat) (B : Nat) (w : World)
    (ha : StrsAt w B (some ⟨g, 0, none⟩) m ls) (hmark : w.cell? ⟨g, m, none⟩ = some (.string markText)) (hg : g < w.heap.size) (hcp : m + 1 ≤ cp) (hcm : cp ≤ maxLen) (hb : StrsAt w B Ab m ls) (hB : B ≤ w.heap.size) :
    Calls Tryz.prog 24 #[.slice (some ⟨g, 0, none⟩) m cp, .slice Ab m cpb] w fun e w' => e = .returned (.bool true) ∧ Below w.heap.size w w' := by
  have hcm' := hcm
  unfold maxLen at hcm'
  have ST := Lib.hid (sameTexts_any (some ⟨g, 0, none⟩) m cp ls Ab cpb B w ha hb hB (by omega))
  have HM := Lib.hid hmark
  have HG := Lib.hid hg
  clear ha hb hmark
  go_enter Tryz.func24, Tryz.ntmps24
  go_wp2_with fail
  refine ST.out.mono ?_
  rintro x w2 ⟨rfl, hb2⟩
  have cm := (hb2.cell (p := ⟨g, m, none⟩) HG.out).trans HM.out
  have B2 := Lib.hid hb2
  unfold markText at cm
  clear hb2
  go_wp2
  go_ret
  exact ⟨rfl, B2.out⟩
set_option maxRecDepth 100000 in
set_option maxHeartbeats 2000000 in
theorem light_any (cn cd cpre cfil ctr : ByteArray) (cf : Bool) (cpt crt : Int) (D : Option Addr) (n dc : Nat) (id run tm st dn flt : Int) (raw : ByteArray) (A : Option Addr) (m cp : Nat) (w : World) (hn : n ≤ maxLen) (hm : m ≤ maxLen) :
    Calls Tryz.prog 4 #[.agg #[.string cn, .bool cf, .int .i64 cpt, .string cd, .string cpre, .string cfil, .string ctr, .slice D n dc, .int .i64 crt], .agg #[.int .i64 id, .int .i64 run, .int .i64 tm, .int .i64 st, .int .i64 dn, .string raw, .int .i64 flt, .slice A m cp]] w fun e w' => e = .returned (.bool (decide (n ≤ 40) && decide (m ≤ 40))) ∧ Below w.heap.size w w' := by
  unfold maxLen at hn hm
  have hb := ((Below.refl w.heap.size w).alloc (Nat.le_refl _) (.cells #[.string cn, .bool cf, .int .i64 cpt, .string cd, .string cpre, .string cfil, .string ctr, .slice D n dc, .int .i64 crt] 24)).alloc (by simp) (.cells #[.int .i64 id, .int .i64 run, .int .i64 tm, .int .i64 st, .int .i64 dn, .string raw, .int .i64 flt, .slice A m cp] 28)
  have HB := Lib.hid hb
  clear hb
  by_cases h1 : n ≤ 40
  · have t1 : decide ((n : Int) ≤ 40) = true := by simp; omega
    by_cases h2 : m ≤ 40
    · have t2 : decide ((m : Int) ≤ 40) = true := by simp; omega
      have HE := Lib.hid (show (decide (n ≤ 40) && decide (m ≤ 40)) = true from by simp [h1, h2])
      go_enter Tryz.func4, Tryz.ntmps4
      go_wp2
      go_ret
      rw [HE.out]
      exact ⟨rfl, HB.out⟩
    · have t2 : decide ((m : Int) ≤ 40) = false := by simp; omega
      have HE := Lib.hid (show (decide (n ≤ 40) && decide (m ≤ 40)) = false from by simp [h2])
      go_enter Tryz.func4, Tryz.ntmps4
      go_wp2
      go_ret
      rw [HE.out]
      exact ⟨rfl, HB.out⟩
  · have t1 : decide ((n : Int) ≤ 40) = false := by simp; omega
    have HE := Lib.hid (show (decide (n ≤ 40) && decide (m ≤ 40)) = false from by simp [h1])
    go_enter Tryz.func4, Tryz.ntmps4
    go_wp2
    go_ret
    rw [HE.out]
    exact ⟨rfl, HB.out⟩
end Go.Proofs.YtemjipongehjlaaGreat
/- A region that draws its order, as in XGen; beside that, what has run is closed: all that it waited for has run. Plain; no conditions. -/
namespace Go.Proofs.YtemjipongehjlaaGreat
set_option linter.unusedVariables false
open Go Go.RowKit
theorem updN {L : Nat → Bool} {i j : Nat} (h : j ≠ i) : upd L i j = L j := by simp [upd, h]
theorem updS {L : Nat → Bool} {i : Nat} : upd L i i = true := by simp [upd]
/-- All that what has run waited for has run. -/
def Closed (ops : Array Oper) (L : Nat → Bool) : Prop := ∀ i j, Region.waitsFor .any ops i j = true → L i = true → L j = true
theorem Closed.upd {ops : Array Oper} {L : Nat → Bool} {k : Nat} (h : Closed ops L) (hR : Rdy ops k L) : Closed ops (upd L k) := by
  intro i j hw hi
  unfold Go.Proofs.YtemjipongehjlaaGreat.upd at hi ⊢
  by_cases hj : j = k
  · rw [if_pos hj]
  · rw [if_neg hj]
    by_cases hik : i = k
    · subst hik
      exact hR j hw
    · rw [if_neg hik] at hi
      exact h i j hw hi
/-- What waits for what has not run has not run. -/
theorem Closed.off {ops : Array Oper} {L : Nat → Bool} (h : Closed ops L) {i j : Nat} (hj : L j = false) (hw : Region.waitsFor .any ops i j = true) : L i = false := by
  cases hi : L i with
  | false => rfl
  | true => rw [h i j hw hi] at hj; cases hj
def withC (ops : Array Oper) (I : (Nat → Bool) → (Nat → Value) → World → Prop) : (Nat → Bool) → (Nat → Value) → World → Prop := fun L vs w => Closed ops L ∧ I L vs w
section
variable {P : Program} {ops : Array Oper} {I : (Nat → Bool) → (Nat → Value) → World → Prop} {F : List Nat} {n : Nat}
/-- The region, walked in the order of the text. -/
theorem wp_region_genC {id : Nat} {Q : Exit → Act → World → Prop} {a : Act} {w : World} {l : List Oper} (n : Nat) (F : List Nat) (I : (Nat → Bool) → (Nat → Value) → World → Prop) (hm : P.follows .mixedOrders = true) (hB : freeB l.toArray [] n = true)
    (h0 : I (fun _ => false) (fun _ => undef) { w with drawn := w.drawn + 1 })
    (h : wpGen P l.toArray (withC l.toArray I) F n (fun a w => ∀ KK : Exit → Act → World → Prop, (∀ a w, Q .normal a w → KK .normal a w) → wpList P l.toArray KK (l.drop n) a w) (l.take n) 0 (fun _ => a)) : (Code.region id l.toArray true).wp P Q a w :=
  wp_region_gen n F (withC l.toArray I) hm hB ⟨fun i j _ hi => absurd hi (by simp), h0⟩ h
theorem wpGenC_nil {Q : Act → World → Prop} {k : Nat} {A : (Nat → Value) → Act} (h : ∀ vs w, I (fun j => decide (j < n)) vs w → Q (A vs) w) : wpGen P ops (withC ops I) F n Q [] k A := fun vs w hI => h vs w hI.2
theorem wpGenC_pure {Q : Act → World → Prop} {o : Oper} {rest : List Oper} {k : Nat} {A : (Nat → Value) → Act} {v : Value} (hF : F.contains k = false)
    (h1 : ∀ L vs w, I L vs w → Closed ops L → Rdy ops k L → L k = false → ∀ K : Value → World → Prop, (∀ w', I (upd L k) (updv vs k v) w' → K v w') → stepF P ops o (A vs) w K)
    (h2 : ∀ KK : ((Nat → Value) → Act) → Prop, (∀ A', wpGen P ops (withC ops I) F n Q rest (k + 1) A' → KK A') → KK (fun vs => (A vs).put o.dst v)) : wpGen P ops (withC ops I) F n Q (o :: rest) k A :=
  wpGen_pure hF (fun L vs w hI hR hL K hK => h1 L vs w hI.2 hI.1 hR hL K fun w' hI' => hK w' ⟨hI.1.upd hR, hI'⟩) h2
theorem wpGenC_fact {Q : Act → World → Prop} {o : Oper} {rest : List Oper} {k : Nat} {A : (Nat → Value) → Act} (hF : F.contains k = true)
    (h1 : ∀ L vs w, I L vs w → Closed ops L → Rdy ops k L → L k = false → ∀ K : Value → World → Prop, (∀ v w', I (upd L k) (updv vs k v) w' → K v w') → stepF P ops o (A vs) w K)
    (h2 : ∀ KK : ((Nat → Value) → Act) → Prop, (∀ A', wpGen P ops (withC ops I) F n Q rest (k + 1) A' → KK A') → KK (fun vs => (A vs).put o.dst (vs k))) : wpGen P ops (withC ops I) F n Q (o :: rest) k A :=
  wpGen_fact hF (fun L vs w hI hR hL K hK => h1 L vs w hI.2 hI.1 hR hL K fun v w' hI' => hK v w' ⟨hI.1.upd hR, hI'⟩) h2
end
end Go.Proofs.YtemjipongehjlaaGreat
/- A store of a whole struct into a block that is known whole; lists of the call's own behind a store elsewhere. Plain; no conditions. -/
namespace Go.Proofs.YtemjipongehjlaaGreat
set_option linter.unusedVariables false
open Go Go.RowKit
theorem Blk.setCells_get {t : TypeId} {b : Nat} : ∀ (vs : List Value) (o : Nat) (cs : Array Value) (w : World), Blk w b t cs → o + vs.length ≤ cs.size →
    ∃ cs2, Blk (w.setCells b o vs) b t cs2 ∧ cs2.size = cs.size ∧ ∀ i, cs2[i]? = if o ≤ i ∧ i < o + vs.length then vs[i - o]? else cs[i]?
  | [], o, cs, w, h, _ => ⟨cs, h, rfl, fun i => by simp; omega⟩
  | v :: vs, o, cs, w, h, hs => by
    simp only [List.length_cons] at hs
    obtain ⟨cs2, h1, h2, h3⟩ := Blk.setCells_get vs (o + 1) _ _ (h.set_ o v) (by simp; omega)
    refine ⟨cs2, h1, by rw [h2]; simp, fun i => ?_⟩
    rw [h3]
    by_cases hi : o + 1 ≤ i ∧ i < o + 1 + vs.length
    · rw [if_pos hi, if_pos (by simp only [List.length_cons]; omega), show i - o = (i - (o + 1)) + 1 by omega, List.getElem?_cons_succ]
    · rw [if_neg hi]
      by_cases ho : i = o
      · subst ho
        rw [if_pos (by simp only [List.length_cons]; omega), Nat.sub_self, Array.getElem?_setIfInBounds, if_pos rfl, if_pos (by omega), List.getElem?_cons_zero]
      · rw [if_neg (by simp only [List.length_cons]; omega)]
        simp [Ne.symm ho]
theorem Blk.setAll {w : World} {t : TypeId} {b : Nat} {cs cs' : Array Value} (h : Blk w b t cs) (hs : cs'.size = cs.size) : Blk (w.setCells b 0 cs'.toList) b t cs' := by
  obtain ⟨cs2, h1, h2, h3⟩ := Blk.setCells_get cs'.toList 0 cs w h (by simp; omega)
  have e : cs2 = cs' := by
    apply Array.ext_getElem?
    intro i
    rw [h3]
    by_cases hi : i < cs'.size
    · rw [if_pos (by simp; omega)]; simp
    · rw [if_neg (by simp; omega), Array.getElem?_eq_none (by omega), Array.getElem?_eq_none (by omega)]
  rwa [e] at h1
theorem grown_setCells (b : Nat) : ∀ (vs : List Value) (o : Nat) (w : World), w.grownBy (w.setCells b o vs) (some b)
  | [], _, w => (Stays.refl w).grown _
  | v :: vs, o, w => (grown_set w b o v).trans (grown_setCells b vs (o + 1) _)
theorem wpList_store_blk {P : Program} {ops : Array Oper} {rest : List Oper} {op : Oper} {a : Act} {w : World} {Q : Exit → Act → World → Prop} {t : TypeId} {cs cs' : Array Value} (hgd : op.guard = none) (ty : TypeId) (x y : Operand) (ho : op.op = .store ty x y)
    (b : Nat) (hx : a.eval x = .pointer (some ⟨b, 0, none⟩)) (hy : a.eval y = .agg cs') (hk : Blk w b t cs) (hs : cs'.size = cs.size) (hi : (P.info? ty).map (·.size) = some cs'.size) (h1 : cs'.all (·.oneCell') = true)
    (h : ∀ w', Blk w' b t cs' → w.grownBy w' (some b) → wpList P ops Q rest (a.put op.dst undef) w') : wpList P ops Q (op :: rest) a w :=
  wpList_store_mid hgd ty x y ho b 0 cs' hx hy (hk.there cs'.size (by omega)) hi h1 (h _ (hk.setAll hs) (grown_setCells b _ 0 w))
section
variable {w w' : World} {B b : Nat} {v : Value}
theorem own_grown {E : TypeId} {size n : Nat} {xs : List Value} (h : w.ownsRow B E size v n xs) (hg : w.grownBy w' (some b)) (hne : v.ownBlock ≠ some b) : w'.ownsRow B E size v n xs := by
  obtain ⟨h1, h2⟩ := h
  refine ⟨h1, ?_⟩
  rcases h2 with h2 | ⟨g, cap, cur, hv, hgB, hh, r⟩
  · exact .inl h2
  · have hlt : g < w.heap.size := by
      rcases Nat.lt_or_ge g w.heap.size with h | h
      · exact h
      · rw [Array.getElem?_eq_none h] at hh; cases hh
    exact .inr ⟨g, cap, cur, hv, hgB, by rw [hg.block g hlt (fun e => hne (by rw [hv]; exact e))]; exact hh, r⟩
theorem own_old {E : TypeId} {size n : Nat} {xs : List Value} (h : w.ownsRow B E size v n xs) : v.ownBlock ≠ some w.heap.size := fun e => by
  rcases h.2 with ⟨h1, _⟩ | ⟨g, cap, cur, hv, hgB, hh, r⟩
  · rw [h1] at e; cases e
  · rw [hv] at e
    have : g = w.heap.size := by simpa [Value.ownBlock] using e
    rw [this, Array.getElem?_eq_none (Nat.le_refl _)] at hh
    cases hh
theorem OwnL.grownAt {l : List P.Leg} (h : OwnL w B v l) (hg : w.grownBy w' (some b)) (hne : v.ownBlock ≠ some b) : OwnL w' B v l := own_grown h hg hne
end
/-- A world behind a store into a block that was made since. -/
theorem below_gr {w w1 w2 : World} {g : Nat} (h : Below w.heap.size w w1) (hg : w1.grownBy w2 (some g)) (hge : w.heap.size ≤ g) : Below w.heap.size w w2 := h.trans (below_grown hg h.size hge)
end Go.Proofs.YtemjipongehjlaaGreat
/- The book: its lists and what marks stand in them, in plain words; what a call may change, told by the blocks' types. -/
namespace Go.Proofs.YtemjipongehjlaaGreat
set_option linter.unusedVariables false
open Go Go.RowKit
namespace P
def nameOf (i k : Nat) : ByteArray := ⟨#[109, UInt8.ofNat (65 + i % 26), UInt8.ofNat (65 + i / 26 % 26), UInt8.ofNat (48 + k % 10), UInt8.ofNat (48 + k / 10 % 10), UInt8.ofNat (48 + k / 100 % 10)]⟩
def markLegAt (i k : Nat) : Leg := ⟨nameOf i k, 0, 0, 0, ⟨#[]⟩, ⟨#[]⟩⟩
/-- n marks, from the place f on, of the i-th list. -/
def marksL (i f n : Nat) : List Leg := (List.range n).map fun j => markLegAt i (f + j)
def marksS (i f n : Nat) : List ByteArray := (List.range n).map fun j => nameOf i (f + j)
theorem marksL_len (i f n : Nat) : (marksL i f n).length = n := by simp [marksL]
theorem marksS_len (i f n : Nat) : (marksS i f n).length = n := by simp [marksS]
theorem marksL_succ (i f n : Nat) : marksL i f (n + 1) = marksL i f n ++ [markLegAt i (f + n)] := by simp [marksL, List.range_succ]
theorem marksS_succ (i f n : Nat) : marksS i f (n + 1) = marksS i f n ++ [nameOf i (f + n)] := by simp [marksS, List.range_succ]
theorem marksL_add (i f n m : Nat) : marksL i f n ++ marksL i (f + n) m = marksL i f (n + m) := by
  induction m with
  | zero => simp [marksL]
  | succ m ih => rw [marksL_succ, ← List.append_assoc, ih, ← Nat.add_assoc, marksL_succ, Nat.add_assoc]
theorem marksS_add (i f n m : Nat) : marksS i f n ++ marksS i (f + n) m = marksS i f (n + m) := by
  induction m with
  | zero => simp [marksS]
  | succ m ih => rw [marksS_succ, ← List.append_assoc, ih, ← Nat.add_assoc, marksS_succ, Nat.add_assoc]
theorem marksL_get {i f n j : Nat} (h : j < n) : (marksL i f n)[j]? = some (markLegAt i (f + j)) := by simp [marksL, h]
theorem marksS_get {i f n j : Nat} (h : j < n) : (marksS i f n)[j]? = some (nameOf i (f + j)) := by simp [marksS, h]
end P
/-- From block B on, only blocks of the types T may be changed. -/
structure Frame (w w' : World) (B : Nat) (T : List TypeId) : Prop where
  os : w'.os = w.os
  tape : w'.tape = w.tape
  output : w'.output = w.output
  size : w.heap.size ≤ w'.heap.size
  keep : ∀ k, k < w.heap.size → (k < B ∨ ∀ cs t fz, w.heap[k]? = some (.cells cs t fz) → t ∉ T) → w'.heap[k]? = w.heap[k]?
section
variable {w w' w'' : World} {B : Nat} {T T' : List TypeId}
theorem Frame.refl (w : World) (B : Nat) (T : List TypeId) : Frame w w B T := ⟨rfl, rfl, rfl, Nat.le_refl _, fun _ _ _ => rfl⟩
theorem Frame.of_stays (h : Stays w w') (B : Nat) (T : List TypeId) : Frame w w' B T := ⟨h.os, h.tape, h.output, h.size, fun k hk _ => h.block k hk⟩
theorem Frame.of_grown {g : Nat} {t : TypeId} {cs : Array Value} (h : w.grownBy w' (some g)) (hk : Blk w g t cs) (hB : B ≤ g) (ht : t ∈ T) : Frame w w' B T :=
  ⟨h.os, h.tape, h.output, h.size, fun k hlt hor => h.block k hlt fun e => by
    cases e
    rcases hor with h1 | h1
    · omega
    · exact h1 _ _ _ hk ht⟩
theorem Frame.of_own {E : TypeId} {size n : Nat} {v : Value} {xs : List Value} (h : w.grownBy w' v.ownBlock) (ho : w.ownsRow B E size v n xs) (ht : E ∈ T) : Frame w w' B T :=
  ⟨h.os, h.tape, h.output, h.size, fun k hlt hor => h.block k hlt fun e => by
    rcases ho.2 with ⟨h1, _⟩ | ⟨g, cap, cur, hv, hgB, hh, r⟩
    · rw [h1] at e; cases e
    · rw [hv] at e
      have : k = g := by simpa [Value.ownBlock] using e
      subst this
      rcases hor with h1 | h1
      · omega
      · exact h1 _ _ _ hh ht⟩
theorem Frame.trans (h : Frame w w' B T) (k : Frame w' w'' B T) : Frame w w'' B T :=
  ⟨k.os.trans h.os, k.tape.trans h.tape, k.output.trans h.output, Nat.le_trans h.size k.size, fun i hi hor => by
    have e := h.keep i hi hor
    rw [k.keep i (Nat.lt_of_lt_of_le hi h.size) (hor.imp id fun hh cs t fz hc => hh cs t fz (e ▸ hc)), e]⟩
theorem Frame.wide (h : Frame w w' B T) (ht : ∀ t, t ∈ T → t ∈ T') : Frame w w' B T' :=
  ⟨h.os, h.tape, h.output, h.size, fun k hk hor => h.keep k hk (hor.imp id fun hh cs t fz hc hm => hh cs t fz hc (ht t hm))⟩
theorem Frame.below (h : Frame w w' B T) (hB : B ≤ w.heap.size) : Below B w w' := ⟨h.os, h.tape, h.output, h.size, fun k hk => h.keep k (by omega) (.inl hk)⟩
theorem Blk.frame {g : Nat} {t : TypeId} {cs : Array Value} (hk : Blk w g t cs) (h : Frame w w' B T) (ht : t ∉ T) : Blk w' g t cs :=
  (h.keep g hk.lt (.inr fun cs' t' fz hc => by unfold Blk at hk; rw [hk] at hc; cases hc; exact ht)).trans hk
theorem own_frame {C : Nat} {E : TypeId} {size n : Nat} {v : Value} {xs : List Value} (ho : w.ownsRow C E size v n xs) (h : Frame w w' B T) (ht : E ∉ T) : w'.ownsRow C E size v n xs := by
  obtain ⟨h1, h2⟩ := ho
  refine ⟨h1, ?_⟩
  rcases h2 with h2 | ⟨g, cap, cur, hv, hgB, hh, r⟩
  · exact .inl h2
  · have hlt : g < w.heap.size := by
      rcases Nat.lt_or_ge g w.heap.size with h | h
      · exact h
      · rw [Array.getElem?_eq_none h] at hh; cases hh
    exact .inr ⟨g, cap, cur, hv, hgB, (h.keep g hlt (.inr fun cs' t' fz hc => by rw [hh] at hc; cases hc; exact ht)).trans hh, r⟩
end
/-- An append to a list of the call's own; what the list's cells were is there still, wherever the new list lies. -/
theorem run_append_keep {P : Program} (w : World) (base : Nat) (t ty e : TypeId) (i : TypeInfo) (z : Value) (size bytes : Nat) (ht : P.underlying t = some (.slice e)) (hi : P.info? e = some i) (hz : i.zero = some z)
    (hsize : i.size = size) (hby : i.bytes = bytes) (hzs : z.cells.size = size) (hsz : 0 < size)
    (v : Value) (n : Nat) (xs : List Value) (hown : w.ownsRow base e size v n xs)
    (a : Addr) (m c : Nat) (news : List Value) (hl : news.length = m * size) (hnews : ∀ j u, news[j]? = some u → w.cell? (a.add j) = some u) (h1 : ∀ u ∈ news, u.oneCell' = true)
    (h63 : n + m ≤ maxLen) (hbytes : (n + m) * bytes ≤ 140737488355328) (hbase : base ≤ w.heap.size) :
    ∃ v' w', (Builtin.append_ #[t, t] ty #[v, .slice (some a) m c]).run P w = .ok v' w' ∧ w'.ownsRow base e size v' (n + m) (xs ++ news) ∧ w.grownBy w' v.ownBlock ∧ (v'.ownBlock = v.ownBlock ∨ v'.ownBlock = some w.heap.size) ∧
      ∀ g, v.ownBlock = some g → (∃ cs, Blk w' g e cs) ∧ ∀ o, o < n * size → w'.cell? ⟨g, o, none⟩ = w.cell? ⟨g, o, none⟩ := by
  obtain ⟨v', w', hr, h2, h3, _, h5⟩ := run_append_own_at (P := P) w base t ty e i z size bytes ht hi hz hsize hby hzs hsz v n xs hown a m c news hl hnews h1 h63 hbytes hbase
  refine ⟨v', w', hr, h2, h3, h5, fun g hg => ?_⟩
  rcases hown.2 with ⟨rfl, _⟩ | ⟨g', cap, cur, rfl, hbg, hgc, hnc, hcm, hcs, htake⟩
  · cases hg
  have hgg : g' = g := by simpa [Value.ownBlock] using hg
  subst hgg
  have hsmall : n + m ≤ 9223372036854775807 := by simp only [maxLen] at h63; omega
  have hlt : g' < w.heap.size := by
    rcases Nat.lt_or_ge g' w.heap.size with h | h
    · exact h
    · rw [Array.getElem?_eq_none h] at hgc; cases hgc
  have hxl : xs.length = n * size := hown.1
  rcases Nat.lt_or_ge cap (n + m) with hno | hroom
  · have hr2 := run_append_grow (P := P) w t ty e i z ht hi hz ⟨g', 0, none⟩ n cap xs (by rw [hsize]; exact hxl) (hown.cells (g := g') rfl) a m c news (by rw [hsize]; exact hl) hnews (by omega) (by omega) (growslice_fits (by omega) (by rw [hby]; exact hbytes))
    rw [hr] at hr2
    injection hr2 with _ hw
    rw [hw]
    exact ⟨⟨cur, (Below.heap_alloc w.drew _ g' hlt).trans hgc⟩, fun o ho => World.cell?_of_block (w := w) (a := ⟨g', o, none⟩) (Below.heap_alloc w.drew _ g' hlt)⟩
  · subst hsize
    have hfit : n * i.size + news.length ≤ cur.size := by rw [hl, hcs, ← Nat.add_mul]; exact Nat.mul_le_mul_right _ hroom
    have hr2 := run_append_room (P := P) w t ty e i ht hi g' n cap cur hgc a m c news hl hnews h1 hroom hfit
    rw [hr] at hr2
    injection hr2 with hv hw
    refine ⟨?_, fun o ho => ?_⟩
    · rcases h2.2 with ⟨e1, _⟩ | ⟨g2, cap2, cur2, hv2, _, hh2, _⟩
      · rw [hv] at e1; cases e1
      · have hg2 : g2 = g' := by
          rw [hv] at hv2
          injection hv2 with hv2
          injection hv2 with hv2
          injection hv2 with hv2
          exact hv2.symm
        subst hg2
        exact ⟨cur2, hh2⟩
    have hc1 := h2.cells (g := g') (by rw [hv]; rfl) o
    have hc0 := hown.cells (g := g') rfl o
    have hx : xs[o]? = some (xs[o]'(by omega)) := List.getElem?_eq_getElem (by omega)
    have e1 := hc1 _ (by rw [List.getElem?_append_left (by omega)]; exact hx)
    have e0 := hc0 _ hx
    rw [Addr.add_lit, Nat.zero_add] at e1 e0
    rw [e1, e0]
end Go.Proofs.YtemjipongehjlaaGreat
/- Lists that grow by append while what they were is kept; what name, markLegs and markTexts return. -/
namespace Go.Proofs.YtemjipongehjlaaGreat
set_option linter.unusedVariables false
open Go.RowKit Go.BigFrame
/-- v has come of v0 by appends, since the world W0; what v0 read as stands. -/
structure GrowI (W0 : World) (B : Nat) (E : TypeId) (size : Nat) (v0 : Value) (n0 : Nat) (w : World) (v : Value) (n : Nat) (xs : List Value) : Prop where
  own : w.ownsRow B E size v n xs
  lt0 : ∀ g, v0.ownBlock = some g → g < W0.heap.size
  gr : W0.grownBy w v0.ownBlock
  at_ : v.ownBlock = v0.ownBlock ∨ ∃ g, v.ownBlock = some g ∧ W0.heap.size ≤ g
  old : ∀ g o, v0.ownBlock = some g → o < n0 * size → w.cell? ⟨g, o, none⟩ = W0.cell? ⟨g, o, none⟩
  more : n0 ≤ n
  ty : ∀ g, v0.ownBlock = some g → ∃ cs, Blk w g E cs
section
variable {P : Program} {W0 w w' : World} {B : Nat} {E : TypeId} {size n0 n : Nat} {v0 v : Value} {xs : List Value}
theorem GrowI.start (h : W0.ownsRow B E size v n xs) : GrowI W0 B E size v n W0 v n xs :=
  ⟨h, fun g hg => (World.ownsRow.lt h g hg).2, (Stays.refl W0).grown _, .inl rfl, fun _ _ _ _ => rfl, Nat.le_refl _, fun g hg => by
    rcases h.2 with ⟨h1, _⟩ | ⟨g', cap, cur, hv, hgB, hh, r⟩
    · rw [h1] at hg; cases hg
    · rw [hv] at hg
      have : g' = g := by simpa [Value.ownBlock] using hg
      subst this
      exact ⟨cur, hh⟩⟩
theorem own_stays (h : w.ownsRow B E size v n xs) (hs : Stays w w') : w'.ownsRow B E size v n xs := by
  obtain ⟨h1, h2⟩ := h
  refine ⟨h1, ?_⟩
  rcases h2 with h2 | ⟨g, cap, cur, hv, hg, hh, r⟩
  · exact .inl h2
  · have hlt : g < w.heap.size := by
      rcases Nat.lt_or_ge g w.heap.size with h | h
      · exact h
      · rw [Array.getElem?_eq_none h] at hh; cases hh
    exact .inr ⟨g, cap, cur, hv, hg, by rw [hs.block g hlt]; exact hh, r⟩
theorem GrowI.stays (h : GrowI W0 B E size v0 n0 w v n xs) (hs : Stays w w') : GrowI W0 B E size v0 n0 w' v n xs :=
  ⟨own_stays h.own hs, h.lt0, h.gr.trans (hs.grown _), h.at_, fun g o hg ho => by
    rw [hs.cell (p := ⟨g, o, none⟩) (Nat.lt_of_lt_of_le (h.lt0 g hg) h.gr.size)]
    exact h.old g o hg ho, h.more, fun g hg => by
    obtain ⟨cs, hk⟩ := h.ty g hg
    exact ⟨cs, hk.stays hs⟩⟩
theorem wpList_append_growI {ops : Array Oper} {rest : List Oper} {o : Oper} {a : Act} {Q : Exit → Act → World → Prop} (hgd : o.guard = none) (s x : Operand) (t : TypeId)
    (ho : o.op = .call { callee := .builtin .append, args := #[s, x], argTypes := #[t, t] })
    (i : TypeInfo) (z : Value) (bytes : Nat) (ht : P.underlying t = some (.slice E)) (hi : P.info? E = some i) (hz : i.zero = some z)
    (hsize : i.size = size) (hby : i.bytes = bytes) (hzs : z.cells.size = size) (hsz : 0 < size)
    (hI : GrowI W0 B E size v0 n0 w v n xs) (hs : a.eval s = v) (hB : B ≤ w.heap.size)
    (ad : Addr) (m c : Nat) (news : List Value) (hx : a.eval x = .slice (some ad) m c) (hl : news.length = m * size) (hnews : ∀ j u, news[j]? = some u → w.cell? (ad.add j) = some u) (h1 : ∀ u ∈ news, u.oneCell' = true)
    (h63 : n + m ≤ maxLen) (hbytes : (n + m) * bytes ≤ 140737488355328)
    (h : ∀ v' w', GrowI W0 B E size v0 n0 w' v' (n + m) (xs ++ news) → w.grownBy w' v.ownBlock → wpList P ops Q rest (a.put o.dst v') w') : wpList P ops Q (o :: rest) a w := by
  refine wpList_plain hgd fun K hK => ?_
  obtain ⟨v', w', hr, h2, h3, h4, h5⟩ := run_append_keep (P := P) w B t o.type E i z size bytes ht hi hz hsize hby hzs hsz v n xs hI.own ad m c news hl hnews h1 h63 hbytes hB
  unfold Oper.wp execOp
  simp only [ho, resolve, invoke, builtin, Sem.run_bind, Sem.run_pure, Result.andThen_ok, List.map_toArray, List.map_cons, List.map_nil, hs, hx, hr]
  refine hK _ _ (h v' w' ⟨h2, hI.lt0, ⟨h3.os.trans hI.gr.os, h3.tape.trans hI.gr.tape, h3.output.trans hI.gr.output, Nat.le_trans hI.gr.size h3.size, fun k hk hne => ?_⟩, ?_, fun g o' hg ho' => ?_, by have := hI.more; omega, fun g hg => ?_⟩ h3)
  · rw [h3.block k (Nat.lt_of_lt_of_le hk hI.gr.size) (fun e => ?_), hI.gr.block k hk hne]
    rcases hI.at_ with h6 | ⟨g, h6, h7⟩
    · exact hne (e.trans h6)
    · rw [h6] at e
      cases e
      omega
  · rcases h4 with h4 | h4
    · rw [h4]; exact hI.at_
    · exact .inr ⟨_, h4, hI.gr.size⟩
  · rw [← hI.old g o' hg ho']
    rcases hI.at_ with h6 | ⟨g', h6, h7⟩
    · exact (h5 g (h6.trans hg)).2 o' (Nat.lt_of_lt_of_le ho' (Nat.mul_le_mul_right _ hI.more))
    · refine World.cell?_of_block (w := w) (a := ⟨g, o', none⟩) (h3.block g (Nat.lt_of_lt_of_le (hI.lt0 g hg) hI.gr.size) (fun e => ?_))
      rw [h6] at e
      cases e
      have := hI.lt0 _ hg
      omega
  · rcases hI.at_ with h6 | ⟨g', h6, h7⟩
    · exact (h5 g (h6.trans hg)).1
    · obtain ⟨cs, hk⟩ := hI.ty g hg
      exact ⟨cs, hk.grown h3 (fun e => by
        rw [h6] at e
        cases e
        have := hI.lt0 _ hg
        omega)⟩
end
set_option maxHeartbeats 2000000 in
set_option maxRecDepth 100000 in
theorem name_any (i k : Nat) (w : World) (hi : i ≤ 1000000) (hk : k ≤ 1000000000) :
    Calls Tryz.prog 168 #[.int .i64 i, .int .i64 k] w fun e w' => e = .returned (.string (P.nameOf i k)) ∧ Below w.heap.size w w' := by
  have u8 : ∀ x : Nat, x < 256 → ((UInt8.ofNat x).toNat : Int) = (x : Int) := fun x hx => by
    simp [UInt8.toNat_ofNat]; omega
  have hcells : (#[.int .u8 109, .int .u8 (65 + (i : Int) % 26), .int .u8 (65 + (i : Int) / 26 % 26), .int .u8 (48 + (k : Int) % 10), .int .u8 (48 + (k : Int) / 10 % 10), .int .u8 (48 + (k : Int) / 100 % 10)] : Array Value) = cellsU8 (P.nameOf i k).data.toList := by
    have e1 := u8 (65 + i % 26) (by omega)
    have e2 := u8 (65 + i / 26 % 26) (by omega)
    have e3 := u8 (48 + k % 10) (by omega)
    have e4 := u8 (48 + k / 10 % 10) (by omega)
    have e5 := u8 (48 + k / 100 % 10) (by omega)
    unfold cellsU8 P.nameOf
    simp only [List.map_cons, List.map_nil, e1, e2, e3, e4, e5]
    simp
  have HC := bytes_string (n := 6) (c := 6) (Blk.new w 5 (cellsU8 (P.nameOf i k).data.toList)) (by simp [P.nameOf])
  rw [← hcells] at HC
  rw [show (⟨((P.nameOf i k).data.toList.take 6).toArray⟩ : ByteArray) = P.nameOf i k from rfl] at HC
  have HB := Lib.hid ((Below.refl w.heap.size w).alloc (Nat.le_refl _) (.cells #[.int .u8 109, .int .u8 (65 + (i : Int) % 26), .int .u8 (65 + (i : Int) / 26 % 26), .int .u8 (48 + (k : Int) % 10), .int .u8 (48 + (k : Int) / 10 % 10), .int .u8 (48 + (k : Int) / 100 % 10)] 5))
  clear hcells u8
  go_enter Tryz.func168, Tryz.ntmps168
  go_wp2
  go_ret
  exact ⟨rfl, HB.out⟩
/-- The cells of one leg behind an allocation. -/
theorem newsLeg (w : World) (t : TypeId) (l : P.Leg) : ∀ j u, l.cells[j]? = some u → (w.alloc (.cells l.cells.toArray t)).cell? ((⟨w.heap.size, 0, none⟩ : Addr).add j) = some u := newsL w t l
set_option maxHeartbeats 2000000 in
set_option maxRecDepth 100000 in
theorem markLegs_any (i f n : Nat) (w : World) (hi : i ≤ 1000000) (hf : f ≤ 100000000) (hn : n ≤ 100000000) :
    Calls Tryz.prog 159 #[.int .i64 i, .int .i64 f, .int .i64 n] w (GivesL w (P.marksL i f n)) := by
  go_enter Tryz.func159, Tryz.ntmps159
  go_wp2_with fail
  go_loopw [7, 8] (fun o x wr => ∃ j : Nat, j ≤ n ∧ x = .int .i64 ((f + j : Nat) : Int) ∧ OwnL wr w.heap.size o (P.marksL i f j) ∧ Below w.heap.size w wr) (fun _ x _ => f + n - (intOf x).toNat)
  case atStart => exact ⟨0, by omega, by simp, OwnL.nil _ _, Below.refl _ _⟩
  case round =>
    obtain ⟨j, hj, rfl, hown, hbel⟩ := hrel
    have OW := Lib.hid hown
    have BW := Lib.hid hbel
    have HS := Lib.hid (P.marksL_succ i f j)
    have HLn := Lib.hid (P.marksL_len i f j)
    clear hown hbel
    by_cases hlt : j < n
    · have t1 : decide (((f + j : Nat) : Int) < (f : Int) + (n : Int)) = true := by simp; omega
      have NA := Lib.hid (name_any i (f + j) wr (by omega) (by omega))
      go_wp2_with fail
      refine NA.out.mono ?_
      rintro x w2 ⟨rfl, hb2⟩
      have O2 := Lib.hid (OW.out.below hb2 (Nat.le_refl _))
      have B2 := Lib.hid (BW.out.trans (hb2.mono BW.out.size))
      clear hb2
      generalize P.marksL i f j = acc at *
      go_wp2_with (at_builtin; refine wpList_append_leg1 rfl (.tmp 17) (.tmp 22) rfl w.heap.size u7 acc rfl (O2.out.alloc (.cells #[.string (P.nameOf i (f + j)), .int .i64 0, .int .i64 0, .int .i64 0, .string ⟨#[]⟩, .string ⟨#[]⟩] 69)) ⟨w2.heap.size, 0, none⟩ (P.markLegAt i (f + j)) rfl (newsL w2 69 (P.markLegAt i (f + j))) (by have := HLn.out; omega) (by have := B2.out.size; simp; omega) ?_; intro o4 w4 hown4 hb4 hg4; have O4 := Lib.hid hown4; have W4 := Lib.hid ((B2.out.alloc B2.out.size (.cells #[.string (P.nameOf i (f + j)), .int .i64 0, .int .i64 0, .int .i64 0, .string ⟨#[]⟩, .string ⟨#[]⟩] 69)).trans hb4); clear hown4 hb4 hg4)
      go_roundw
      case rel => exact ⟨j + 1, by omega, by go_num, by rw [HS.out]; exact O4.out, W4.out⟩
      case measure => simp [intOf]; omega
    · have t1 : decide (((f + j : Nat) : Int) < (f : Int) + (n : Int)) = false := by simp; omega
      have hjn : j = n := by omega
      subst hjn
      go_wp2
      go_ret
      exact ⟨_, rfl, OW.out, BW.out⟩
end Go.Proofs.YtemjipongehjlaaGreat
