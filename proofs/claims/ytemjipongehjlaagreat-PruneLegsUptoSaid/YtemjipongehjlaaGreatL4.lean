/- What slices.Clone of legs, prune.copied, strings.Clone return; what a delivery that went well turns. -/
import Derived.Test.YtemjipongehjlaaGreatL3
import Derived.Test.YtemjipongehjlaaGreatShelf
import Derived.Lib.SliceRun
namespace Go.Proofs.YtemjipongehjlaaGreat
set_option linter.unusedVariables false
open Go.RowKit Go.BigFrame
section
variable {w w' : World} {B B' : Nat} {v : Value} {l : List P.Leg}
theorem OwnL.reads (h : OwnL w B v l) : ∃ A c, v = .slice A l.length c ∧ LegsAt w w.heap.size A l.length l := by
  rcases h.2 with ⟨rfl, hn⟩ | ⟨g, cap, cur, rfl, hg, hh, r⟩
  · exact ⟨none, 0, by rw [hn], by rw [hn, List.eq_nil_of_length_eq_zero hn]; exact Reads.nil⟩
  · exact ⟨_, _, rfl, Reads.of_own h⟩
theorem OwnL.empty (w : World) : OwnL (w.alloc (.cells #[] 69)) w.heap.size (.slice (some ⟨w.heap.size, 0, none⟩) 0 0) [] :=
  ⟨by simp, .inr ⟨w.heap.size, 0, #[], rfl, Nat.le_refl _, heap_alloc_new w _, Nat.le_refl _, Nat.zero_le _, by simp, by simp⟩⟩
theorem OwnL.far (h : OwnL w B v l) {p : Addr} (hp : p.block < B) (u : Value) : OwnL (w.setCell p u) B v l := by
  obtain ⟨h1, h2⟩ := h
  refine ⟨h1, ?_⟩
  rcases h2 with h2 | ⟨g, cap, cur, hv, hg, hh, r⟩
  · exact .inl h2
  · exact .inr ⟨g, cap, cur, hv, hg, by rw [Below.heap_setCell _ _ _ _ (by omega)]; exact hh, r⟩
theorem flat_one (l : List P.Leg) : ∀ u ∈ l.flatMap P.Leg.cells, u.oneCell' = true := by
  intro u hu
  obtain ⟨x, _, hx⟩ := List.mem_flatMap.1 hu
  exact leg_one x u hx
theorem wpList_append_legs {w : World} {ops : Array Oper} {rest : List Oper} {o : Oper} {a : Act} {Q : Exit → Act → World → Prop} (hgd : o.guard = none) (s x : Operand)
    (ho : o.op = .call { callee := .builtin .append, args := #[s, x], argTypes := #[26, 26] })
    (B : Nat) (v : Value) (l : List P.Leg) (hs : a.eval s = v) (hown : OwnL w B v l)
    (ad : Addr) (m c : Nat) (news : List P.Leg) (hx : a.eval x = .slice (some ad) m c) (hl : news.length = m) (hnews : ∀ j z, (news.flatMap P.Leg.cells)[j]? = some z → w.cell? (ad.add j) = some z)
    (hbytes : l.length + m ≤ 1099511627777) (hbase : B ≤ w.heap.size)
    (h : ∀ v' w', OwnL w' B v' (l ++ news) → Below B w w' → wpList Tryz.prog ops Q rest (a.put o.dst v') w') : wpList Tryz.prog ops Q (o :: rest) a w := by
  obtain ⟨i, hi, hz, hs1, hb1⟩ := info_parts infoLeg
  refine wpList_append_own w hgd s x 26 ho B 69 i _ 6 72 Tryz.underlying26 hi hz hs1 hb1 rfl (by omega) v l.length (l.flatMap P.Leg.cells) hs hown ad m c (news.flatMap P.Leg.cells) hx (by rw [flat_len _ 6 leg_len, hl])
    hnews (flat_one news) (by unfold maxLen; omega) (by omega) hbase ?_
  intro v' w' hown' hg _
  refine h v' w' ?_ ((Below.refl _ _).grown hg hbase (fun k hk => (World.ownsRow.lt hown k hk).1))
  unfold OwnL
  rw [List.length_append, List.flatMap_append, hl]
  exact hown'
end
set_option maxRecDepth 100000 in
set_option maxHeartbeats 1000000 in
theorem clone_any (A : Option Addr) (m cp : Nat) (ls : List P.Leg) (B : Nat) (w : World) (h : LegsAt w B A m ls) (hB : B ≤ w.heap.size) (hm : m ≤ 1099511627776) :
    Calls Tryz.prog 163 #[.slice A m cp] w (GivesL w ls) := by
  rcases A with _ | ad
  · have hm0 : m = 0 := by
      rcases Nat.eq_zero_or_pos m with h0 | h0
      · exact h0
      · obtain ⟨ad, e, _⟩ := h.2 h0; cases e
    have hls : ls = [] := List.eq_nil_of_length_eq_zero (by rw [h.len]; exact hm0)
    have he : ∀ W, (binOp .eql 26 (.slice none m cp) (.slice none 0 0)).run Tryz.prog W = .ok (.bool true) W := fun W => Lib.run_eql_slice_nil W 26 69 none m cp 0 0 Tryz.underlying26
    have HL := Lib.hid hls
    clear h hm0 hls
    go_enter Tryz.func163, Tryz.ntmps163
    go_wp2
    go_ret
    rw [HL.out]
    exact ⟨_, rfl, OwnL.nil _ _, Below.refl _ _⟩
  · have he : ∀ W, (binOp .eql 26 (.slice (some ad) m cp) (.slice none 0 0)).run Tryz.prog W = .ok (.bool false) W := fun W => Lib.run_eql_slice_nil W 26 69 (some ad) m cp 0 0 Tryz.underlying26
    have hl := h.len
    have hc : ∀ j z, (ls.flatMap P.Leg.cells)[j]? = some z → (w.alloc (.cells #[] 69)).cell? (ad.add j) = some z := fun j z hz => by
      have hm1 : 0 < m := by
        rcases Nat.eq_zero_or_pos m with h0 | h0
        · rw [List.eq_nil_of_length_eq_zero (hl.trans h0)] at hz; cases hz
        · exact h0
      obtain ⟨ad', e, hb, hcc⟩ := h.2 hm1
      cases e
      rw [World.cell?_alloc_lt w _ (ad.add j) (by rw [block_of_add]; omega)]
      exact hcc j z hz
    have HL := Lib.hid hl
    have HC := Lib.hid hc
    have HO := Lib.hid (OwnL.empty w)
    clear h hl hc
    go_enter Tryz.func163, Tryz.ntmps163
    go_wp2_with (at_builtin; refine wpList_append_legs rfl (.tmp 5) (.tmp 6) rfl w.heap.size (.slice (some ⟨w.heap.size, 0, none⟩) 0 0) [] rfl HO.out ad m cp ls rfl HL.out HC.out (by simp; omega) (by simp) ?_; intro v' w' hown hb)
    have HB := Lib.hid ((((Below.refl w.heap.size w).alloc (Nat.le_refl _) (.cells #[] 69))).trans hb)
    clear hb
    go_wp2
    go_ret
    exact ⟨_, rfl, by simpa using hown, HB.out⟩
/-- The call hands back a row with legs of its own; what was there stands. -/
def GivesR (w : World) (id run tm st dn flt : Int) (raw : ByteArray) (l : List P.Leg) (x : Ending) (w' : World) : Prop := ∃ v, x = .returned (.agg #[.int .i64 id, .int .i64 run, .int .i64 tm, .int .i64 st, .int .i64 dn, .string raw, .int .i64 flt, v]) ∧ OwnL w' w.heap.size v l ∧ Below w.heap.size w w'
set_option maxRecDepth 100000 in
set_option maxHeartbeats 1000000 in
theorem copied_any (id run tm st dn flt : Int) (raw : ByteArray) (A : Option Addr) (m cp : Nat) (ls : List P.Leg) (B : Nat) (w : World) (h : LegsAt w B A m ls) (hB : B ≤ w.heap.size) (hm : m ≤ 1099511627776) :
    Calls Tryz.prog 124 #[.agg #[.int .i64 id, .int .i64 run, .int .i64 tm, .int .i64 st, .int .i64 dn, .string raw, .int .i64 flt, .slice A m cp]] w (GivesR w id run tm st dn flt raw ls) := by
  have hb := (((Below.refl w.heap.size w).alloc (Nat.le_refl _) (.cells #[.int .i64 id, .int .i64 run, .int .i64 tm, .int .i64 st, .int .i64 dn, .string raw, .int .i64 flt, .slice A m cp] 28)).alloc (by simp) (.cells #[.int .i64 0, .int .i64 0, .int .i64 0, .int .i64 0, .int .i64 0, .string ⟨#[]⟩, .int .i64 0, .slice none 0 0] 28))
  have K := Lib.hid (clone_any A m cp ls B ((w.alloc (.cells #[.int .i64 id, .int .i64 run, .int .i64 tm, .int .i64 st, .int .i64 dn, .string raw, .int .i64 flt, .slice A m cp] 28)).alloc (.cells #[.int .i64 0, .int .i64 0, .int .i64 0, .int .i64 0, .int .i64 0, .string ⟨#[]⟩, .int .i64 0, .slice none 0 0] 28)) (h.below (hb.mono hB)) (by simp; omega) hm)
  have k1 := (Blk.new w 28 #[.int .i64 id, .int .i64 run, .int .i64 tm, .int .i64 st, .int .i64 dn, .string raw, .int .i64 flt, .slice A m cp]).alloc (.cells #[.int .i64 0, .int .i64 0, .int .i64 0, .int .i64 0, .int .i64 0, .string ⟨#[]⟩, .int .i64 0, .slice none 0 0] 28)
  have k2 := Blk.new (w.alloc (.cells #[.int .i64 id, .int .i64 run, .int .i64 tm, .int .i64 st, .int .i64 dn, .string raw, .int .i64 flt, .slice A m cp] 28)) 28 #[.int .i64 0, .int .i64 0, .int .i64 0, .int .i64 0, .int .i64 0, .string ⟨#[]⟩, .int .i64 0, .slice none 0 0]
  rw [show (w.alloc (.cells #[.int .i64 id, .int .i64 run, .int .i64 tm, .int .i64 st, .int .i64 dn, .string raw, .int .i64 flt, .slice A m cp] 28)).heap.size = w.heap.size + 1 from by simp] at k2
  have HB := Lib.hid hb
  have K1 := Lib.hid k1
  have K2 := Lib.hid k2
  clear h hb k1 k2
  go_enter Tryz.func124, Tryz.ntmps124
  go_wp2_with fail
  refine K.out.mono ?_
  rintro x w2 ⟨v, rfl, hown, hb2⟩
  obtain ⟨A2, c2', rfl, -⟩ := hown.reads
  have c1 := fun i => (K1.out.below hb2 K1.out.lt).cell i
  have c2 := fun i => (K2.out.below hb2 K2.out.lt).cell i
  have f1 := fun i => (K1.out.below hb2 K1.out.lt).frozen i
  have f2 := fun i => (K2.out.below hb2 K2.out.lt).frozen i
  have B2 := Lib.hid (HB.out.trans (hb2.mono HB.out.size))
  have OW := Lib.hid hown
  have Z2 : w.heap.size + 2 = ((w.alloc (.cells #[.int .i64 id, .int .i64 run, .int .i64 tm, .int .i64 st, .int .i64 dn, .string raw, .int .i64 flt, .slice A m cp] 28)).alloc (.cells #[.int .i64 0, .int .i64 0, .int .i64 0, .int .i64 0, .int .i64 0, .string ⟨#[]⟩, .int .i64 0, .slice none 0 0] 28)).heap.size := by simp
  rw [← Z2] at OW
  clear hb2 hown
  go_wp2
  refine bodyPost_ret (v := .agg #[.int .i64 id, .int .i64 run, .int .i64 tm, .int .i64 st, .int .i64 dn, .string raw, .int .i64 flt, .slice A2 ls.length c2']) (by simp [results, Tryz.results124, go_sem, c2]) rfl ⟨_, rfl, ?_, ?_⟩
  · refine OwnL.less (B := w.heap.size + 2) ?_ (by omega)
    repeat (refine OwnL.far ?_ (by simp) _)
    exact OW.out
  · repeat (refine Below.setCell ?_ (by simp) _)
    exact B2.out
end Go.Proofs.YtemjipongehjlaaGreat
