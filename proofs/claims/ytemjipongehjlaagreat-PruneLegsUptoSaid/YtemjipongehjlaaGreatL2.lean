/- Arguments that are channels: opened. Plain; no conditions. -/
import Derived.Test.YtemjipongehjlaaGreatL1
import Derived.BigQuiet
import Derived.Deep.QuietTactic
import Derived.Maps.OwnSet
import Derived.WideKeyPair
import Derived.DeepKeys4
import Derived.MapViews
namespace Go.Proofs.YtemjipongehjlaaGreat
set_option linter.unusedVariables false
open Go.Joins Go.ChangeShapes Go.WideShapes Go.RowKit Go.Deep
/-- What a destination that was read holds. -/
structure DestWf (d : P.Dest) : Prop where
  chain : (Lit.int .i64 d.chain).wf = true
  port : (Lit.int .i64 d.port).wf = true
  retry : (Lit.int .i64 d.retry).wf = true
  backoff : (Lit.int .i64 d.backoff).wf = true
  timeout : (Lit.int .i64 d.timeout).wf = true
set_option maxRecDepth 100000 in
theorem open_dests {H : Type} {enc : TypeId × Value → H} {w : World} {base : Nat} {spare : Nat → Bool} {held : Bool} {fuel : Nat} {v : Value} {x : DataW H × List MemPlace} (h : DataW.trod enc Tryz.prog w base spare held fuel 22 [v] = some x) :
    ∃ A m c ls, v = .slice A m c ∧ m ≤ c ∧ c ≤ maxLen ∧ DestsAt w w.heap.size A m ls ∧ (∀ l ∈ ls, DestWf l) ∧ (x = (.nil, []) ∧ m = 0 ∨ ∃ el sp, x.1 = .slice el sp ∧ el.length = m) := by
  rcases open_slice_fields Tryz.underlying22 Tryz.underlying67 (by kernel_rfl) (by kernel_rfl) h with ⟨e, hx⟩ | ⟨a, len, cap, m, D, Pl, e, _, hlc, hc, hm, hx, hf⟩
  · simp at e
    exact ⟨none, 0, 0, [], e, Nat.le_refl _, Nat.zero_le _, Reads.nil, fun l hl => by simp at hl, .inl ⟨hx, rfl⟩⟩
  · simp at e
    have hlm : len ≤ m := by rw [hm]; split <;> omega
    obtain ⟨ls, hl, hq⟩ := list_of (Q := fun i (l : P.Dest) => (∀ j u, l.cells[j]? = some u → w.cell? (a.add (i * 9 + j)) = some u) ∧ DestWf l) len fun i hi => by
      obtain ⟨ys, n, _, _, _, hg⟩ := hf i (by omega)
      obtain ⟨v0, y0, c0, _, t0⟩ := hg 0 _ rfl
      obtain ⟨v1, y1, c1, _, t1⟩ := hg 1 _ rfl
      obtain ⟨v2, y2, c2, _, t2⟩ := hg 2 _ rfl
      obtain ⟨v3, y3, c3, _, t3⟩ := hg 3 _ rfl
      obtain ⟨v4, y4, c4, _, t4⟩ := hg 4 _ rfl
      obtain ⟨v5, y5, c5, _, t5⟩ := hg 5 _ rfl
      obtain ⟨v6, y6, c6, _, t6⟩ := hg 6 _ rfl
      obtain ⟨v7, y7, c7, _, t7⟩ := hg 7 _ rfl
      obtain ⟨v8, y8, c8, _, t8⟩ := hg 8 _ rfl
      obtain ⟨s0, rfl, _, _⟩ := trod_string_one Tryz.underlying9 t0
      obtain ⟨n1, rfl, _, w1⟩ := trod_int_one Tryz.underlying3 t1
      obtain ⟨b2, rfl, _⟩ := trod_bool_one Tryz.underlying4 t2
      obtain ⟨n3, rfl, _, w3⟩ := trod_int_one Tryz.underlying3 t3
      obtain ⟨s4, rfl, _, _⟩ := trod_string_one Tryz.underlying9 t4
      obtain ⟨n5, rfl, _, w5⟩ := trod_int_one Tryz.underlying3 t5
      obtain ⟨n6, rfl, _, w6⟩ := trod_int_one Tryz.underlying3 t6
      obtain ⟨n7, rfl, _, w7⟩ := trod_int_one Tryz.underlying3 t7
      obtain ⟨s8, rfl, _, _⟩ := trod_string_one Tryz.underlying9 t8
      refine ⟨⟨s0, n1, b2, n3, s4, n5, n6, n7, s8⟩, fun j u hu => ?_, w1, w3, w5, w6, w7⟩
      have hj : j < 9 := by
        rcases Nat.lt_or_ge j 9 with h | h
        · exact h
        · rw [List.getElem?_eq_none (by rw [dest_len]; exact h)] at hu; cases hu
      rcases (by omega : j = 0 ∨ j = 1 ∨ j = 2 ∨ j = 3 ∨ j = 4 ∨ j = 5 ∨ j = 6 ∨ j = 7 ∨ j = 8) with rfl | rfl | rfl | rfl | rfl | rfl | rfl | rfl | rfl <;> cases hu <;> assumption
    refine ⟨some a, len, cap, ls, e, hlc, hc, reads_of (by omega) dest_len hl (fun hn => ?_) (fun i l hi => (hq i l hi).1), fun l hl' => ?_, .inr ⟨_, _, by rw [hx], by simp⟩⟩
    · obtain ⟨ys, n, _, _, _, hg⟩ := hf 0 (by omega)
      obtain ⟨v0, y0, c0, _, t0⟩ := hg 0 _ rfl
      have := World.block_lt_of_cell? _ _ c0
      rwa [block_of_add] at this
    · obtain ⟨i, hi⟩ := List.getElem?_of_mem hl'
      exact (hq i l hi).2
set_option maxRecDepth 100000 in
theorem open_channel {H : Type} {enc : TypeId × Value → H} {w : World} {base : Nat} {spare : Nat → Bool} {held : Bool} {r : Reach} {b0 : Nat} {v : Value} {d : DataW H} {p : List MemPlace}
    (hv : Value.okWide Tryz.prog w r b0 24 v) (h : DataW.Trod enc Tryz.prog w base spare held 24 v d p) :
    ∃ (cn : ByteArray) (cf : Bool) (cpt : Int) (cd cpre cfil ctr : ByteArray) (crt : Int) (D : Option Addr) (n dc : Nat) (ds : List P.Dest), v = .agg #[.string cn, .bool cf, .int .i64 cpt, .string cd, .string cpre, .string cfil, .string ctr, .slice D n dc, .int .i64 crt] ∧ DestsAt w w.heap.size D n ds ∧ n ≤ maxLen ∧ (∀ d ∈ ds, DestWf d) ∧ (Lit.int .i64 cpt).wf = true ∧ (Lit.int .i64 crt).wf = true := by
  obtain ⟨c0, c1, c2, c3, c4, c5, c6, c7, c8, y0, y1, y2, y3, y4, y5, y6, y7, y8, n, rfl, rfl, rfl, h0, h1, h2, h3, h4, h5, h6, h7, h8⟩ := open_agg9 Tryz.underlying24 (by kernel_rfl) (by kernel_rfl) hv h
  obtain ⟨a0, rfl, _, _⟩ := trod_string_one Tryz.underlying9 h0
  obtain ⟨a1, rfl, _⟩ := trod_bool_one Tryz.underlying4 h1
  obtain ⟨a2, rfl, _, w2⟩ := trod_int_one Tryz.underlying3 h2
  obtain ⟨a3, rfl, _, _⟩ := trod_string_one Tryz.underlying9 h3
  obtain ⟨a4, rfl, _, _⟩ := trod_string_one Tryz.underlying9 h4
  obtain ⟨a5, rfl, _, _⟩ := trod_string_one Tryz.underlying9 h5
  obtain ⟨a6, rfl, _, _⟩ := trod_string_one Tryz.underlying9 h6
  obtain ⟨A, m, c, ls, rfl, hmc, hc, hl, hw, _⟩ := open_dests h7
  obtain ⟨a8, rfl, _, w8⟩ := trod_int_one Tryz.underlying3 h8
  exact ⟨a0, a1, a2, a3, a4, a5, a6, a8, A, m, c, ls, rfl, hl, Nat.le_trans hmc hc, hw, w2, w8⟩
end Go.Proofs.YtemjipongehjlaaGreat
/- What table.Terminal, prune.open return. -/
namespace Go.Proofs.YtemjipongehjlaaGreat
set_option linter.unusedVariables false
open Go.RowKit Go.BigFrame
namespace P
theorem terminal_open {ls : List Leg} {k : Nat} {l : Leg} (h : ls[k]? = some l) (ho : l.isOpen = true) : terminal 3 ls = false := by
  have : (ls.all fun l => !l.isOpen) = false := by
    rw [List.all_eq_false]
    exact ⟨l, List.mem_of_getElem? h, by simp [ho]⟩
  simp [terminal, this]
theorem terminal_all {ls : List Leg} (h : ∀ j l, j < ls.length → ls[j]? = some l → l.isOpen = false) : terminal 3 ls = true := by
  have : (ls.all fun l => !l.isOpen) = true := by
    rw [List.all_eq_true]
    intro l hl
    obtain ⟨j, hj⟩ := List.getElem?_of_mem hl
    have hjl : j < ls.length := by
      rcases Nat.lt_or_ge j ls.length with h1 | h1
      · exact h1
      · rw [List.getElem?_eq_none h1] at hj; cases hj
    simp [h j l hjl hj]
  simp [terminal, this]
theorem open_key (l : Leg) : (l.isOpen = true ∧ ((l.status == 1) = true ∨ ((l.status == 1) = false ∧ (l.status == 2) = true))) ∨ (l.isOpen = false ∧ (l.status == 1) = false ∧ (l.status == 2) = false) := by
  unfold Leg.isOpen
  cases (l.status == 1) <;> cases (l.status == 2) <;> simp
end P
set_option maxRecDepth 100000 in
set_option maxHeartbeats 1000000 in
theorem terminal_any (id run tm st dn flt : Int) (raw : ByteArray) (A : Option Addr) (m cp : Nat) (ls : List P.Leg) (B : Nat) (w : World) (h : LegsAt w B A m ls) (hB : B ≤ w.heap.size) (hm : m ≤ maxLen) :
    Calls Tryz.prog 129 #[.agg #[.int .i64 id, .int .i64 run, .int .i64 tm, .int .i64 st, .int .i64 dn, .string raw, .int .i64 flt, .slice A m cp]] w fun x w' => x = .returned (.bool (P.terminal st ls)) ∧ Below w.heap.size w w' := by
  unfold maxLen at hm
  by_cases h3 : st = 3
  · subst h3
    have H := Lib.hid h
    clear h
    go_enter Tryz.func129, Tryz.ntmps129
    go_wp2_with fail
    go_loopw [15] (fun x wr => ∃ k : Nat, k ≤ m ∧ x = .int .i64 k ∧ (∀ j l, j < k → ls[j]? = some l → l.isOpen = false) ∧ Below w.heap.size w wr) (fun x _ => m - (intOf x).toNat)
    case atStart => exact ⟨0, by omega, rfl, fun j l hj => by omega, (Below.refl _ _).alloc (Nat.le_refl _) _⟩
    case round =>
      obtain ⟨k, hk, rfl, hno, hbel⟩ := hrel
      have Hno := Lib.hid hno
      clear hno
      by_cases hlt : k < m
      · obtain ⟨ad, l, rfl, hb, hl, hc⟩ := (H.out.below (hbel.mono hB)).in_ hlt
        have HL := Lib.hid hl
        obtain ⟨c0, c1, c2, c3, c4, c5⟩ := hc
        clear hl
        rcases P.open_key l with ⟨ho, t1 | ⟨t1, t2⟩⟩ | ⟨ho, t1, t2⟩
        · have HT := Lib.hid (P.terminal_open HL.out ho)
          clear ho
          go_wp2
          go_ret
          rw [HT.out]
          exact ⟨rfl, hbel.alloc hbel.size _⟩
        · have HT := Lib.hid (P.terminal_open HL.out ho)
          clear ho
          go_wp2
          go_ret
          rw [HT.out]
          exact ⟨rfl, hbel.alloc hbel.size _⟩
        · have HN := Lib.hid (show ∀ j l, j < k + 1 → ls[j]? = some l → l.isOpen = false from fun j l2 hj hl2 => by
            rcases Nat.lt_or_ge j k with h1 | h1
            · exact Hno.out j l2 h1 hl2
            · have : j = k := by omega
              subst this
              rw [HL.out] at hl2
              cases hl2
              exact ho)
          clear ho
          go_wp2
          go_roundw
          case rel => exact ⟨k + 1, by omega, by go_num, HN.out, hbel.alloc hbel.size _⟩
          case measure => simp [intOf]; omega
      · have hkm : k = m := by omega
        have HT := Lib.hid (P.terminal_all (ls := ls) (fun j l hj hl => Hno.out j l (by have := H.out.len; omega) hl))
        clear hkm
        go_wp2
        go_ret
        rw [HT.out]
        exact ⟨rfl, hbel⟩
  · have key : ((st == 1) = true ∧ P.terminal st ls = true) ∨ ((st == 1) = false ∧ (st == 2) = true ∧ P.terminal st ls = true) ∨ ((st == 1) = false ∧ (st == 2) = false ∧ (st == 3) = false ∧ P.terminal st ls = false) := by
      have h3' : (st == 3) = false := by simpa using h3
      unfold P.terminal
      rw [h3']
      cases (st == 1) <;> cases (st == 2) <;> simp
    clear h3
    rcases key with ⟨t1, ht⟩ | ⟨t1, t2, ht⟩ | ⟨t1, t2, t3, ht⟩
    all_goals
      have HT := Lib.hid ht
      clear ht h
      go_enter Tryz.func129, Tryz.ntmps129
      go_wp2
      go_ret
      rw [HT.out]
      exact ⟨rfl, (Below.refl _ _).alloc (Nat.le_refl _) _⟩
set_option maxRecDepth 100000 in
set_option maxHeartbeats 1000000 in
theorem open_any (l : P.Leg) (w : World) : Calls Tryz.prog 32 #[.agg #[.string l.name, .int .i64 l.status, .int .i64 l.tries, .int .i64 l.due, .string l.payload, .string l.reply]] w fun x w' => x = .returned (.bool l.isOpen) ∧ Below w.heap.size w w' := by
  rcases P.open_key l with ⟨ho, t1 | ⟨t1, t2⟩⟩ | ⟨ho, t1, t2⟩
  all_goals
    have HO := Lib.hid ho
    clear ho
    go_enter Tryz.func32, Tryz.ntmps32
    go_wp2
    go_ret
    rw [HO.out]
    exact ⟨rfl, (Below.refl _ _).alloc (Nat.le_refl _) _⟩
end Go.Proofs.YtemjipongehjlaaGreat
/- What prune.leg returns: the place of a destination's leg. -/
namespace Go.Proofs.YtemjipongehjlaaGreat
set_option linter.unusedVariables false
open Go.RowKit Go.BigFrame
namespace P
def legI (ls : List Leg) (name : ByteArray) : Int := match legAt ls name with | none => -1 | some k => (k : Int)
theorem legAt_some {ls : List Leg} {name : ByteArray} {k : Nat} {l : Leg} (hl : ls[k]? = some l) (h : (l.name.toList == name.toList) = true) (hno : ∀ j l, j < k → ls[j]? = some l → (l.name.toList == name.toList) = false) : legAt ls name = some k := by
  have hk : k < ls.length := by
    rcases Nat.lt_or_ge k ls.length with h1 | h1
    · exact h1
    · rw [List.getElem?_eq_none h1] at hl; cases hl
  unfold legAt
  rw [List.findIdx?_eq_some_iff_getElem]
  rw [List.getElem?_eq_getElem hk] at hl
  cases hl
  refine ⟨hk, by simpa [ByteArray.toList_eq] using h, fun j hj => ?_⟩
  have := hno j _ hj (List.getElem?_eq_getElem (by omega))
  simpa [ByteArray.toList_eq] using this
theorem legAt_none {ls : List Leg} {name : ByteArray} (hno : ∀ j l, j < ls.length → ls[j]? = some l → (l.name.toList == name.toList) = false) : legAt ls name = none := by
  unfold legAt
  rw [List.findIdx?_eq_none_iff]
  intro l hl
  obtain ⟨j, hj⟩ := List.getElem?_of_mem hl
  have hjl : j < ls.length := by
    rcases Nat.lt_or_ge j ls.length with h1 | h1
    · exact h1
    · rw [List.getElem?_eq_none h1] at hj; cases hj
  have := hno j l hjl hj
  simpa [ByteArray.toList_eq] using this
end P
set_option maxRecDepth 100000 in
set_option maxHeartbeats 1000000 in
theorem leg1_any (l : P.Leg) (name : ByteArray) (g : Nat) (W : World) (hg : g < W.heap.size) (hc : W.cell? ⟨g, 0, none⟩ = some (.string name)) : Calls Tryz.prog 123 #[.agg #[.string l.name, .int .i64 l.status, .int .i64 l.tries, .int .i64 l.due, .string l.payload, .string l.reply], .pointer (some ⟨g, 0, none⟩)] W fun x w' => x = .returned (.bool (l.name.toList == name.toList)) ∧ Below W.heap.size W w' := by
  go_enter Tryz.func123, Tryz.ntmps123
  go_wp2
  go_ret
  exact ⟨rfl, (Below.refl _ _).alloc (Nat.le_refl _) _⟩
set_option maxRecDepth 100000 in
set_option maxHeartbeats 1000000 in
theorem indexLeg_any (A : Option Addr) (m cp : Nat) (ls : List P.Leg) (name : ByteArray) (g B : Nat) (w : World) (h : LegsAt w B A m ls) (hB : B ≤ w.heap.size) (hm : m ≤ maxLen) (hg : g < w.heap.size) (hc : w.cell? ⟨g, 0, none⟩ = some (.string name)) :
    Calls Tryz.prog 122 #[.slice A m cp, .func (.func 123) #[] #[.pointer (some ⟨g, 0, none⟩)]] w fun x w' => x = .returned (.int .i64 (P.legI ls name)) ∧ Below w.heap.size w w' := by
  unfold maxLen at hm
  have H := Lib.hid h
  have HC := Lib.hid hc
  clear h hc
  go_enter Tryz.func122, Tryz.ntmps122
  go_wp2_with fail
  go_loopw [8] (fun x wr => ∃ k : Nat, k ≤ m ∧ x = .int .i64 k ∧ (∀ j l, j < k → ls[j]? = some l → (l.name.toList == name.toList) = false) ∧ Below w.heap.size w wr) (fun x _ => m - (intOf x).toNat)
  case atStart => exact ⟨0, by omega, rfl, fun j l hj => by omega, Below.refl _ _⟩
  case round =>
    obtain ⟨k, hk, rfl, hno, hbel⟩ := hrel
    have Hno := Lib.hid hno
    clear hno
    by_cases hlt : k < m
    · obtain ⟨ad, l, rfl, hb, hl, hc⟩ := (H.out.below (hbel.mono hB)).in_ hlt
      have HL := Lib.hid hl
      obtain ⟨c0, c1, c2, c3, c4, c5⟩ := hc
      have K := Lib.hid (fun W (hW : Below w.heap.size w W) => leg1_any l name g W (Nat.lt_of_lt_of_le hg hW.size) ((hW.cell (p := ⟨g, 0, none⟩) hg).trans HC.out))
      clear hl
      go_wp2_with fail
      refine (K.out _ hbel).mono ?_
      rintro x w2 ⟨rfl, hb2⟩
      have B2 := Lib.hid (hbel.trans (hb2.mono hbel.size))
      clear hb2
      cases ht : (l.name.toList == name.toList)
      · have HN := Lib.hid (show ∀ j l, j < k + 1 → ls[j]? = some l → (l.name.toList == name.toList) = false from fun j l2 hj hl2 => by
          rcases Nat.lt_or_ge j k with h1 | h1
          · exact Hno.out j l2 h1 hl2
          · have : j = k := by omega
            subst this
            rw [HL.out] at hl2
            cases hl2
            exact ht)
        clear ht
        go_wp2
        go_roundw
        case rel => exact ⟨k + 1, by omega, by go_num, HN.out, B2.out⟩
        case measure => simp [intOf]; omega
      · have HT := Lib.hid (show P.legI ls name = (k : Int) from by unfold P.legI; rw [P.legAt_some HL.out ht Hno.out])
        clear ht
        go_wp2
        go_ret
        rw [HT.out]
        exact ⟨rfl, B2.out⟩
    · have HT := Lib.hid (show P.legI ls name = -1 from by unfold P.legI; rw [P.legAt_none (fun j l hj hl => Hno.out j l (by have := H.out.len; omega) hl)])
      go_wp2
      go_ret
      rw [HT.out]
      exact ⟨rfl, hbel⟩
namespace P
def destAt (ls : List Dest) (name : ByteArray) : Option Nat := ls.findIdx? fun l => l.name.data.toList == name.data.toList
def destI (ls : List Dest) (name : ByteArray) : Int := match destAt ls name with | none => -1 | some k => (k : Int)
theorem destAt_some {ls : List Dest} {name : ByteArray} {k : Nat} {l : Dest} (hl : ls[k]? = some l) (h : (l.name.toList == name.toList) = true) (hno : ∀ j l, j < k → ls[j]? = some l → (l.name.toList == name.toList) = false) : destAt ls name = some k := by
  have hk : k < ls.length := by
    rcases Nat.lt_or_ge k ls.length with h1 | h1
    · exact h1
    · rw [List.getElem?_eq_none h1] at hl; cases hl
  unfold destAt
  rw [List.findIdx?_eq_some_iff_getElem]
  rw [List.getElem?_eq_getElem hk] at hl
  cases hl
  refine ⟨hk, by simpa [ByteArray.toList_eq] using h, fun j hj => ?_⟩
  have := hno j _ hj (List.getElem?_eq_getElem (by omega))
  simpa [ByteArray.toList_eq] using this
theorem destAt_none {ls : List Dest} {name : ByteArray} (hno : ∀ j l, j < ls.length → ls[j]? = some l → (l.name.toList == name.toList) = false) : destAt ls name = none := by
  unfold destAt
  rw [List.findIdx?_eq_none_iff]
  intro l hl
  obtain ⟨j, hj⟩ := List.getElem?_of_mem hl
  have hjl : j < ls.length := by
    rcases Nat.lt_or_ge j ls.length with h1 | h1
    · exact h1
    · rw [List.getElem?_eq_none h1] at hj; cases hj
  have := hno j l hjl hj
  simpa [ByteArray.toList_eq] using this
end P
set_option maxRecDepth 100000 in
set_option maxHeartbeats 1000000 in
theorem dest1_any (l : P.Dest) (name : ByteArray) (g : Nat) (W : World) (hg : g < W.heap.size) (hc : W.cell? ⟨g, 0, none⟩ = some (.string name)) : Calls Tryz.prog 126 #[.agg #[.string l.name, .int .i64 l.chain, .bool l.file, .int .i64 l.port, .string l.dir, .int .i64 l.retry, .int .i64 l.backoff, .int .i64 l.timeout, .string l.response], .pointer (some ⟨g, 0, none⟩)] W fun x w' => x = .returned (.bool (l.name.toList == name.toList)) ∧ Below W.heap.size W w' := by
  go_enter Tryz.func126, Tryz.ntmps126
  go_wp2
  go_ret
  exact ⟨rfl, (Below.refl _ _).alloc (Nat.le_refl _) _⟩
set_option maxRecDepth 100000 in
set_option maxHeartbeats 1000000 in
theorem indexDest_any (A : Option Addr) (m cp : Nat) (ls : List P.Dest) (name : ByteArray) (g B : Nat) (w : World) (h : DestsAt w B A m ls) (hB : B ≤ w.heap.size) (hm : m ≤ maxLen) (hg : g < w.heap.size) (hc : w.cell? ⟨g, 0, none⟩ = some (.string name)) :
    Calls Tryz.prog 125 #[.slice A m cp, .func (.func 126) #[] #[.pointer (some ⟨g, 0, none⟩)]] w fun x w' => x = .returned (.int .i64 (P.destI ls name)) ∧ Below w.heap.size w w' := by
  unfold maxLen at hm
  have H := Lib.hid h
  have HC := Lib.hid hc
  clear h hc
  go_enter Tryz.func125, Tryz.ntmps125
  go_wp2_with fail
  go_loopw [8] (fun x wr => ∃ k : Nat, k ≤ m ∧ x = .int .i64 k ∧ (∀ j l, j < k → ls[j]? = some l → (l.name.toList == name.toList) = false) ∧ Below w.heap.size w wr) (fun x _ => m - (intOf x).toNat)
  case atStart => exact ⟨0, by omega, rfl, fun j l hj => by omega, Below.refl _ _⟩
  case round =>
    obtain ⟨k, hk, rfl, hno, hbel⟩ := hrel
    have Hno := Lib.hid hno
    clear hno
    by_cases hlt : k < m
    · obtain ⟨ad, l, rfl, hb, hl, hc⟩ := (H.out.below (hbel.mono hB)).in_ hlt
      have HL := Lib.hid hl
      obtain ⟨c0, c1, c2, c3, c4, c5, c6, c7, c8⟩ := hc
      have K := Lib.hid (fun W (hW : Below w.heap.size w W) => dest1_any l name g W (Nat.lt_of_lt_of_le hg hW.size) ((hW.cell (p := ⟨g, 0, none⟩) hg).trans HC.out))
      clear hl
      go_wp2_with fail
      refine (K.out _ hbel).mono ?_
      rintro x w2 ⟨rfl, hb2⟩
      have B2 := Lib.hid (hbel.trans (hb2.mono hbel.size))
      clear hb2
      cases ht : (l.name.toList == name.toList)
      · have HN := Lib.hid (show ∀ j l, j < k + 1 → ls[j]? = some l → (l.name.toList == name.toList) = false from fun j l2 hj hl2 => by
          rcases Nat.lt_or_ge j k with h1 | h1
          · exact Hno.out j l2 h1 hl2
          · have : j = k := by omega
            subst this
            rw [HL.out] at hl2
            cases hl2
            exact ht)
        clear ht
        go_wp2
        go_roundw
        case rel => exact ⟨k + 1, by omega, by go_num, HN.out, B2.out⟩
        case measure => simp [intOf]; omega
      · have HT := Lib.hid (show P.destI ls name = (k : Int) from by unfold P.destI; rw [P.destAt_some HL.out ht Hno.out])
        clear ht
        go_wp2
        go_ret
        rw [HT.out]
        exact ⟨rfl, B2.out⟩
    · have HT := Lib.hid (show P.destI ls name = -1 from by unfold P.destI; rw [P.destAt_none (fun j l hj hl => Hno.out j l (by have := H.out.len; omega) hl)])
      go_wp2
      go_ret
      rw [HT.out]
      exact ⟨rfl, hbel⟩
set_option maxRecDepth 100000 in
set_option maxHeartbeats 1000000 in
theorem leg_any (id run tm st dn flt : Int) (raw : ByteArray) (A : Option Addr) (m cp : Nat) (ls : List P.Leg) (name : ByteArray) (B : Nat) (w : World) (h : LegsAt w B A m ls) (hB : B ≤ w.heap.size) (hm : m ≤ maxLen) :
    Calls Tryz.prog 31 #[.agg #[.int .i64 id, .int .i64 run, .int .i64 tm, .int .i64 st, .int .i64 dn, .string raw, .int .i64 flt, .slice A m cp], .string name] w fun x w' => x = .returned (.int .i64 (P.legI ls name)) ∧ Below w.heap.size w w' := by
  have hb := ((Below.refl w.heap.size w).alloc (Nat.le_refl _) (.cells #[.int .i64 id, .int .i64 run, .int .i64 tm, .int .i64 st, .int .i64 dn, .string raw, .int .i64 flt, .slice A m cp] 28)).alloc (by simp) (.cells #[.string name] 9)
  have hh := (h.below (hb.mono hB))
  have hc : ((w.alloc (.cells #[.int .i64 id, .int .i64 run, .int .i64 tm, .int .i64 st, .int .i64 dn, .string raw, .int .i64 flt, .slice A m cp] 28)).alloc (.cells #[.string name] 9)).cell? ⟨w.heap.size + 1, 0, none⟩ = some (.string name) := by
    have := (Blk.new (w.alloc (.cells #[.int .i64 id, .int .i64 run, .int .i64 tm, .int .i64 st, .int .i64 dn, .string raw, .int .i64 flt, .slice A m cp] 28)) 9 #[.string name]).cell 0
    rw [show (w.alloc (.cells #[.int .i64 id, .int .i64 run, .int .i64 tm, .int .i64 st, .int .i64 dn, .string raw, .int .i64 flt, .slice A m cp] 28)).heap.size = w.heap.size + 1 from by simp] at this
    exact this
  have K := Lib.hid (indexLeg_any A m cp ls name (w.heap.size + 1) B _ hh (by simp; omega) hm (by simp) hc)
  have HB := Lib.hid hb
  clear hb hh hc h
  go_enter Tryz.func31, Tryz.ntmps31
  go_wp2_with fail
  refine K.out.mono ?_
  rintro x w2 ⟨rfl, hb2⟩
  have B2 := Lib.hid (HB.out.trans (hb2.mono HB.out.size))
  clear hb2
  go_wp2
  go_ret
  exact ⟨rfl, B2.out⟩
end Go.Proofs.YtemjipongehjlaaGreat
/- Sets of arrays of ints that the call itself has made: what is in, what a store puts in. Plain lemmas. -/
namespace Go.Proofs.YtemjipongehjlaaGreat
set_option linter.unusedVariables false
open Go Go.RowKit Go.WideMaps
open Go.Maps (Keyed IsMap)
theorem keyOf_one {P : Program} {k e : TypeId} {q : IntKind} (A : ArrKey P k e 1) (he : P.underlying e = some (.int q)) (hsz : ∃ m, P.types.size = m + 1) {a : Int} (wa : (Lit.int q a).wf = true) :
    keyOf P k (.agg #[.int q a]) = some (.string (keyBytes [.int q a])) := by
  have hkt := A.keyType hsz
  obtain ⟨m, hm⟩ := hsz
  unfold keyOf
  simp only [A.hu]
  rw [if_pos (by simp [hkt, Value.formed, A.hu, A.size]), hm]
  unfold Program.keyLits
  simp only [A.hu, Value.cells]
  rw [if_pos (by rw [A.size]; rfl), show List.range 1 = [0] from rfl, List.mapM_cons, List.mapM_nil]
  simp [A.one, Program.keyLits, he, wa]
theorem laidOutS : laidOutB Tryz.prog = true := by kernel_rfl
theorem sizeS : ∃ m, Tryz.prog.types.size = m + 1 := ⟨Tryz.prog.types.size - 1, by have : 0 < Tryz.prog.types.size := of_decide_eq_true (by kernel_rfl); omega⟩
theorem arr1 : ArrKey Tryz.prog 76 3 1 := ⟨Tryz.underlying76, by kernel_rfl, by kernel_rfl, by kernel_rfl⟩
theorem arr2 : ArrKey Tryz.prog 128 3 2 := ⟨Tryz.underlying128, by kernel_rfl, by kernel_rfl, by kernel_rfl⟩
theorem law1 : Keyed Tryz.prog 76 := Keyed.of_law (deep_law_laid laidOutS (m := 3) (by omega) (of_decide_eq_true (by kernel_rfl)) (by kernel_rfl) (by rw [Tryz.underlying76]))
theorem law2 : Keyed Tryz.prog 128 := Keyed.of_law (deep_law_laid laidOutS (m := 3) (by omega) (of_decide_eq_true (by kernel_rfl)) (by kernel_rfl) (by rw [Tryz.underlying128]))
theorem key1 {a : Int} (wa : (Lit.int .i64 a).wf = true) : keyOf Tryz.prog 76 (.agg #[.int .i64 a]) = some (.string (keyBytes [.int .i64 a])) := keyOf_one arr1 Tryz.underlying3 sizeS wa
theorem key2 {a b : Int} (wa : (Lit.int .i64 a).wf = true) (wb : (Lit.int .i64 b).wf = true) : keyOf Tryz.prog 128 (.agg #[.int .i64 a, .int .i64 b]) = some (.string (keyBytes [.int .i64 a, .int .i64 b])) := keyOf_pair arr2 Tryz.underlying3 sizeS wa wb
theorem zeroU (w : World) : (zeroValue 74).run Tryz.prog w = .ok (.agg #[]) w := by kernel_rfl
/-- Block b is a set of keys of type k; S tells of every key whether it is in. -/
def SetIs (w : World) (k : TypeId) (b n : Nat) (S : Value → Prop) : Prop :=
  ∃ D, w.ownsMap Tryz.prog k (unitElem (H := Unit)) b n D ∧ IsMap D ∧ ∀ v kl, keyOf Tryz.prog k v = some kl → (Maps.has D kl = true ↔ S v)
section
variable {w w' : World} {k : TypeId} {b n : Nat} {S : Value → Prop}
theorem SetIs.made (w : World) (k : TypeId) : SetIs (w.alloc (.map #[] 0)) k w.heap.size 0 (fun _ => False) :=
  ⟨.map [], World.ownsMap_made _ _ _ _, Maps.isMap_empty, fun v kl _ => by rw [Maps.has_eq]; simp⟩
theorem SetIs.lt (h : SetIs w k b n S) : b < w.heap.size := by
  obtain ⟨D, h, _⟩ := h
  exact h.lt
theorem SetIs.keep (h : SetIs w k b n S) (hb : w'.heap[b]? = w.heap[b]?) : SetIs w' k b n S := by
  obtain ⟨D, ⟨es, clock, h1, h2⟩, h3⟩ := h
  exact ⟨D, ⟨es, clock, hb.trans h1, h2⟩, h3⟩
theorem SetIs.below {C : Nat} (h : SetIs w k b n S) (hb : Below C w w') (hC : b < C) : SetIs w' k b n S := h.keep (hb.block b hC)
theorem SetIs.alloc (h : SetIs w k b n S) (o : Obj) : SetIs (w.alloc o) k b n S := h.keep (Below.heap_alloc w o b h.lt)
theorem SetIs.mono {n' : Nat} (h : SetIs w k b n S) (hn : n ≤ n') : SetIs w k b n' S := by
  obtain ⟨D, h1, h2⟩ := h
  exact ⟨D, h1.mono hn, h2⟩
theorem SetIs.say (h : SetIs w k b n S) {S' : Value → Prop} (he : ∀ v, S v ↔ S' v) : SetIs w k b n S' := by
  obtain ⟨D, h1, h2, h3⟩ := h
  exact ⟨D, h1, h2, fun v kl hk => (h3 v kl hk).trans (he v)⟩
end
section
variable {w : World} {ops : Array Oper} {rest : List Oper} {o : Oper} {a : Act} {Q : Exit → Act → World → Prop}
/-- 'v, ok := m[k]'. -/
theorem wpList_set_lookup (hg : o.guard = none) (m x : Operand) (t k : TypeId) (hop : o.op = Op.lookup t m x true) (K : Keyed Tryz.prog k) (ht : Tryz.prog.underlying t = some (.map k 74)) (b n : Nat) (S : Value → Prop)
    (hm : a.eval m = .map (some b)) (hset : SetIs w k b n S) (v : Value) (kl : Lit) (hx : a.eval x = v) (hkey : keyOf Tryz.prog k v = some kl) (r : Bool) (hr : r = true ↔ S v)
    (hK : wpList Tryz.prog ops Q rest (a.put o.dst (.tuple #[.agg #[], .bool r])) w) : wpList Tryz.prog ops Q (o :: rest) a w := by
  obtain ⟨D, hown, _, hs⟩ := hset
  refine wpList_lookup_own_unit w hg m x t hop k 74 K ht (zeroU w) b n D hm hown v kl hx hkey ?_
  have : Maps.has D kl = r := by
    rw [Bool.eq_iff_iff, hs v kl hkey, hr]
  rw [this]
  exact hK
/-- 'm[k] = struct{}{}'. -/
theorem wpList_set_put (hg : o.guard = none) (m x u : Operand) (t k : TypeId) (hop : o.op = Op.mapUpdate t m x u) (K : Keyed Tryz.prog k) (ht : Tryz.prog.underlying t = some (.map k 74)) (b n : Nat) (S : Value → Prop)
    (hm : a.eval m = .map (some b)) (hset : SetIs w k b n S) (hn : n < maxLen) (v : Value) (kl : Lit) (hx : a.eval x = v) (hu : a.eval u = .agg #[]) (hkey : keyOf Tryz.prog k v = some kl)
    (hK : ∀ w', SetIs w' k b (n + 1) (fun z => z = v ∨ S z) → w.grownBy w' (some b) → wpList Tryz.prog ops Q rest (a.put o.dst undef) w') : wpList Tryz.prog ops Q (o :: rest) a w := by
  obtain ⟨D, hown, hmap, hs⟩ := hset
  refine wpList_mapUpdate_own w hg m x u t hop k 74 K ht (unitElem (H := Unit)) b n D hm hown hn v (.agg #[]) kl hx hu hkey (.agg []) [] unitElem_mk ?_
  intro w' hown' hgr
  refine hK w' ⟨_, hown', hmap.put _ _, fun z kz hz => ?_⟩ hgr
  by_cases he : kz = kl
  · subst he
    rw [Maps.has_put_same hmap (K.key hz)]
    simp [K.inj hz hkey]
  · rw [Maps.has_put_other he, hs z kz hz]
    have : z ≠ v := fun e => by subst e; rw [hz] at hkey; cases hkey; exact he rfl
    simp [this]
end
/-- Texts that the call itself has gathered. -/
def OwnS (w : World) (B : Nat) (v : Value) (l : List ByteArray) : Prop := w.ownsRow B 9 1 v l.length (l.map Value.string)
theorem infoStr : (Tryz.prog.info? 9).map (fun i => (i.zero, i.size, i.bytes)) = some (some (.string ByteArray.empty), 1, 16) := by kernel_rfl
section
variable {w w' : World} {B B' : Nat} {v : Value} {l : List ByteArray}
theorem OwnS.nil (w : World) (B : Nat) : OwnS w B (.slice none 0 0) [] := World.ownsRow_nil _ _ _ _
theorem OwnS.alloc (h : OwnS w B v l) (o : Obj) : OwnS (w.alloc o) B v l := World.ownsRow.alloc h o
theorem OwnS.below {C : Nat} (h : OwnS w B v l) (hb : Below C w w') (hC : w.heap.size ≤ C) : OwnS w' B v l := by
  obtain ⟨h1, h2⟩ := h
  refine ⟨h1, ?_⟩
  rcases h2 with h2 | ⟨g, cap, cur, hv, hg, hh, r⟩
  · exact .inl h2
  · have hlt : g < w.heap.size := by
      rcases Nat.lt_or_ge g w.heap.size with h | h
      · exact h
      · rw [Array.getElem?_eq_none h] at hh; cases hh
    exact .inr ⟨g, cap, cur, hv, hg, by rw [hb.block g (by omega)]; exact hh, r⟩
theorem OwnS.grown {b : Nat} (h : OwnS w B v l) (hb : w.grownBy w' (some b)) (hlt : b < B) : OwnS w' B v l := by
  obtain ⟨h1, h2⟩ := h
  refine ⟨h1, ?_⟩
  rcases h2 with h2 | ⟨g, cap, cur, hv, hg, hh, r⟩
  · exact .inl h2
  · have hl : g < w.heap.size := by
      rcases Nat.lt_or_ge g w.heap.size with h | h
      · exact h
      · rw [Array.getElem?_eq_none h] at hh; cases hh
    exact .inr ⟨g, cap, cur, hv, hg, by rw [hb.block g hl (fun e => by cases e; omega)]; exact hh, r⟩
theorem Blk.ne_ {g g' : Nat} {t t' : TypeId} {cs cs' : Array Value} (h : Blk w g t cs) (h' : Blk w g' t' cs') (hne : t ≠ t') : g ≠ g' := by
  rintro rfl
  unfold Blk at h h'
  rw [h] at h'
  injection h' with h'
  injection h' with _ ht
  exact hne ht
theorem own_blk_ne {base : Nat} {e : TypeId} {size n g : Nat} {t : TypeId} {cs : Array Value} {xs : List Value} (h : w.ownsRow base e size v n xs) (hg : Blk w g t cs) (hne : e ≠ t) : some g ≠ v.ownBlock := by
  rcases h.2 with ⟨rfl, _⟩ | ⟨g', cap, cur, rfl, _, hh, _⟩
  · simp [Value.ownBlock]
  · intro he
    have : g' = g := by simpa [Value.ownBlock] using he.symm
    subst this
    exact Blk.ne_ (t := e) hh hg hne rfl
theorem newsS (w : World) (t : TypeId) (s : ByteArray) : ∀ j u, [s][j]? = some u → (w.alloc (.cells #[.string s] t)).cell? ((⟨w.heap.size, 0, none⟩ : Addr).add j) = some (Value.string u) := by
  intro j u hu
  match j, hu with
  | 0, hu =>
    cases hu
    rw [Addr.add_lit, Nat.zero_add, (Blk.new w t #[.string s]).cell]
    rfl
theorem wpList_append_str1 {w : World} {ops : Array Oper} {rest : List Oper} {o : Oper} {a : Act} {Q : Exit → Act → World → Prop} (hgd : o.guard = none) (s x : Operand)
    (ho : o.op = .call { callee := .builtin .append, args := #[s, x], argTypes := #[29, 29] })
    (B : Nat) (v : Value) (l : List ByteArray) (hs : a.eval s = v) (hown : OwnS w B v l)
    (ad : Addr) (u : ByteArray) (hx : a.eval x = .slice (some ad) 1 1) (hnews : ∀ j z, [u][j]? = some z → w.cell? (ad.add j) = some (Value.string z))
    (hbytes : l.length + 1 ≤ 8796093022208) (hbase : B ≤ w.heap.size)
    (h : ∀ v' w', OwnS w' B v' (l ++ [u]) → Below B w w' → w.grownBy w' v.ownBlock → wpList Tryz.prog ops Q rest (a.put o.dst v') w') : wpList Tryz.prog ops Q (o :: rest) a w := by
  obtain ⟨i, hi, hz, hs1, hb1⟩ := info_parts infoStr
  refine wpList_append_own w hgd s x 29 ho B 9 i (.string ByteArray.empty) 1 16 Tryz.underlying29 hi hz hs1 hb1 rfl (by omega) v l.length (l.map Value.string) hs hown ad 1 1 [Value.string u] hx (by simp)
    (fun j z hz => by
      rw [show [Value.string u] = [u].map Value.string from rfl, List.getElem?_map] at hz
      obtain ⟨b, hb, rfl⟩ := Option.map_eq_some_iff.1 hz
      exact hnews j b hb) (by intro z hz; simp at hz; subst hz; rfl) (by unfold maxLen; omega) (by omega) hbase ?_
  intro v' w' hown' hg _
  refine h v' w' ?_ ((Below.refl _ _).grown hg hbase (fun k hk => (World.ownsRow.lt hown k hk).1)) hg
  unfold OwnS
  rw [List.length_append, List.map_append]
  exact hown'
end
end Go.Proofs.YtemjipongehjlaaGreat
