/- What prune.leg returns: the place of a destination's leg. -/
import Derived.Test.YtjbhlojfmcldjabPr1
namespace Go.Proofs.Ytjbhlojfmcldjab
set_option linter.unusedVariables false
open Go.RowKit Go.BigFrame
namespace P
def legI (ls : List Leg) (name : ByteArray) : Int := match legAt ls name with | none => -1 | some k => (k : Int)
theorem legAt_some {ls : List Leg} {name : ByteArray} {k : Nat} {l : Leg} (hl : ls[k]? = some l) (h : (l.name.toList == name.toList) = true) (hno : ∀ j l, j < k → ls[j]? = some l → (l.name.toList == name.toList) = false) : legAt ls name = some k := by
  have hk : k < ls.length := by
    rcases Nat.lt_or_ge k ls.length with h1 | h1
    · exact h1
    · rw [List.getElem?_eq_none h1] at hl; cases hl
  unfold legAt
  rw [List.findIdx?_eq_some_iff_getElem]
  rw [List.getElem?_eq_getElem hk] at hl
  cases hl
  refine ⟨hk, by simpa [ByteArray.toList_eq] using h, fun j hj => ?_⟩
  have := hno j _ hj (List.getElem?_eq_getElem (by omega))
  simpa [ByteArray.toList_eq] using this
theorem legAt_none {ls : List Leg} {name : ByteArray} (hno : ∀ j l, j < ls.length → ls[j]? = some l → (l.name.toList == name.toList) = false) : legAt ls name = none := by
  unfold legAt
  rw [List.findIdx?_eq_none_iff]
  intro l hl
  obtain ⟨j, hj⟩ := List.getElem?_of_mem hl
  have hjl : j < ls.length := by
    rcases Nat.lt_or_ge j ls.length with h1 | h1
    · exact h1
    · rw [List.getElem?_eq_none h1] at hj; cases hj
  have := hno j l hjl hj
  simpa [ByteArray.toList_eq] using this
end P
set_option maxRecDepth 100000 in
set_option maxHeartbeats 1000000 in
theorem leg1_any (l : P.Leg) (name : ByteArray) (g : Nat) (W : World) (hg : g < W.heap.size) (hc : W.cell? ⟨g, 0, none⟩ = some (.string name)) : Calls Try.prog 39 #[.agg #[.string l.name, .int .i64 l.status, .int .i64 l.tries, .int .i64 l.due, .string l.payload, .string l.reply], .pointer (some ⟨g, 0, none⟩)] W fun x w' => x = .returned (.bool (l.name.toList == name.toList)) ∧ Below W.heap.size W w' := by
  go_enter Try.func39, Try.ntmps39
  go_wp2
  go_ret
  exact ⟨rfl, (Below.refl _ _).alloc (Nat.le_refl _) _⟩
set_option maxRecDepth 100000 in
set_option maxHeartbeats 1000000 in
theorem indexLeg_any (A : Option Addr) (m cp : Nat) (ls : List P.Leg) (name : ByteArray) (g B : Nat) (w : World) (h : LegsAt w B A m ls) (hB : B ≤ w.heap.size) (hm : m ≤ maxLen) (hg : g < w.heap.size) (hc : w.cell? ⟨g, 0, none⟩ = some (.string name)) :
    Calls Try.prog 38 #[.slice A m cp, .func (.func 39) #[] #[.pointer (some ⟨g, 0, none⟩)]] w fun x w' => x = .returned (.int .i64 (P.legI ls name)) ∧ Below w.heap.size w w' := by
  unfold maxLen at hm
  have H := Lib.hid h
  have HC := Lib.hid hc
  clear h hc
  go_enter Try.func38, Try.ntmps38
  go_wp2_with fail
  go_loopw [8] (fun x wr => ∃ k : Nat, k ≤ m ∧ x = .int .i64 k ∧ (∀ j l, j < k → ls[j]? = some l → (l.name.toList == name.toList) = false) ∧ Below w.heap.size w wr) (fun x _ => m - (intOf x).toNat)
  case atStart => exact ⟨0, by omega, rfl, fun j l hj => by omega, Below.refl _ _⟩
  case round =>
    obtain ⟨k, hk, rfl, hno, hbel⟩ := hrel
    have Hno := Lib.hid hno
    clear hno
    by_cases hlt : k < m
    · obtain ⟨ad, l, rfl, hb, hl, hc⟩ := (H.out.below (hbel.mono hB)).in_ hlt
      have HL := Lib.hid hl
      obtain ⟨c0, c1, c2, c3, c4, c5⟩ := hc
      have K := Lib.hid (fun W (hW : Below w.heap.size w W) => leg1_any l name g W (Nat.lt_of_lt_of_le hg hW.size) ((hW.cell (p := ⟨g, 0, none⟩) hg).trans HC.out))
      clear hl
      go_wp2_with fail
      refine (K.out _ hbel).mono ?_
      rintro x w2 ⟨rfl, hb2⟩
      have B2 := Lib.hid (hbel.trans (hb2.mono hbel.size))
      clear hb2
      cases ht : (l.name.toList == name.toList)
      · have HN := Lib.hid (show ∀ j l, j < k + 1 → ls[j]? = some l → (l.name.toList == name.toList) = false from fun j l2 hj hl2 => by
          rcases Nat.lt_or_ge j k with h1 | h1
          · exact Hno.out j l2 h1 hl2
          · have : j = k := by omega
            subst this
            rw [HL.out] at hl2
            cases hl2
            exact ht)
        clear ht
        go_wp2
        go_roundw
        case rel => exact ⟨k + 1, by omega, by go_num, HN.out, B2.out⟩
        case measure => simp [intOf]; omega
      · have HT := Lib.hid (show P.legI ls name = (k : Int) from by unfold P.legI; rw [P.legAt_some HL.out ht Hno.out])
        clear ht
        go_wp2
        go_ret
        rw [HT.out]
        exact ⟨rfl, B2.out⟩
    · have HT := Lib.hid (show P.legI ls name = -1 from by unfold P.legI; rw [P.legAt_none (fun j l hj hl => Hno.out j l (by have := H.out.len; omega) hl)])
      go_wp2
      go_ret
      rw [HT.out]
      exact ⟨rfl, hbel⟩
namespace P
def destAt (ls : List Dest) (name : ByteArray) : Option Nat := ls.findIdx? fun l => l.name.data.toList == name.data.toList
def destI (ls : List Dest) (name : ByteArray) : Int := match destAt ls name with | none => -1 | some k => (k : Int)
theorem destAt_some {ls : List Dest} {name : ByteArray} {k : Nat} {l : Dest} (hl : ls[k]? = some l) (h : (l.name.toList == name.toList) = true) (hno : ∀ j l, j < k → ls[j]? = some l → (l.name.toList == name.toList) = false) : destAt ls name = some k := by
  have hk : k < ls.length := by
    rcases Nat.lt_or_ge k ls.length with h1 | h1
    · exact h1
    · rw [List.getElem?_eq_none h1] at hl; cases hl
  unfold destAt
  rw [List.findIdx?_eq_some_iff_getElem]
  rw [List.getElem?_eq_getElem hk] at hl
  cases hl
  refine ⟨hk, by simpa [ByteArray.toList_eq] using h, fun j hj => ?_⟩
  have := hno j _ hj (List.getElem?_eq_getElem (by omega))
  simpa [ByteArray.toList_eq] using this
theorem destAt_none {ls : List Dest} {name : ByteArray} (hno : ∀ j l, j < ls.length → ls[j]? = some l → (l.name.toList == name.toList) = false) : destAt ls name = none := by
  unfold destAt
  rw [List.findIdx?_eq_none_iff]
  intro l hl
  obtain ⟨j, hj⟩ := List.getElem?_of_mem hl
  have hjl : j < ls.length := by
    rcases Nat.lt_or_ge j ls.length with h1 | h1
    · exact h1
    · rw [List.getElem?_eq_none h1] at hj; cases hj
  have := hno j l hjl hj
  simpa [ByteArray.toList_eq] using this
end P
set_option maxRecDepth 100000 in
set_option maxHeartbeats 1000000 in
theorem dest1_any (l : P.Dest) (name : ByteArray) (g : Nat) (W : World) (hg : g < W.heap.size) (hc : W.cell? ⟨g, 0, none⟩ = some (.string name)) : Calls Try.prog 42 #[.agg #[.string l.name, .int .i64 l.chain, .bool l.file, .int .i64 l.port, .string l.dir, .int .i64 l.retry, .int .i64 l.backoff, .int .i64 l.timeout, .string l.response], .pointer (some ⟨g, 0, none⟩)] W fun x w' => x = .returned (.bool (l.name.toList == name.toList)) ∧ Below W.heap.size W w' := by
  go_enter Try.func42, Try.ntmps42
  go_wp2
  go_ret
  exact ⟨rfl, (Below.refl _ _).alloc (Nat.le_refl _) _⟩
set_option maxRecDepth 100000 in
set_option maxHeartbeats 1000000 in
theorem indexDest_any (A : Option Addr) (m cp : Nat) (ls : List P.Dest) (name : ByteArray) (g B : Nat) (w : World) (h : DestsAt w B A m ls) (hB : B ≤ w.heap.size) (hm : m ≤ maxLen) (hg : g < w.heap.size) (hc : w.cell? ⟨g, 0, none⟩ = some (.string name)) :
    Calls Try.prog 41 #[.slice A m cp, .func (.func 42) #[] #[.pointer (some ⟨g, 0, none⟩)]] w fun x w' => x = .returned (.int .i64 (P.destI ls name)) ∧ Below w.heap.size w w' := by
  unfold maxLen at hm
  have H := Lib.hid h
  have HC := Lib.hid hc
  clear h hc
  go_enter Try.func41, Try.ntmps41
  go_wp2_with fail
  go_loopw [8] (fun x wr => ∃ k : Nat, k ≤ m ∧ x = .int .i64 k ∧ (∀ j l, j < k → ls[j]? = some l → (l.name.toList == name.toList) = false) ∧ Below w.heap.size w wr) (fun x _ => m - (intOf x).toNat)
  case atStart => exact ⟨0, by omega, rfl, fun j l hj => by omega, Below.refl _ _⟩
  case round =>
    obtain ⟨k, hk, rfl, hno, hbel⟩ := hrel
    have Hno := Lib.hid hno
    clear hno
    by_cases hlt : k < m
    · obtain ⟨ad, l, rfl, hb, hl, hc⟩ := (H.out.below (hbel.mono hB)).in_ hlt
      have HL := Lib.hid hl
      obtain ⟨c0, c1, c2, c3, c4, c5, c6, c7, c8⟩ := hc
      have K := Lib.hid (fun W (hW : Below w.heap.size w W) => dest1_any l name g W (Nat.lt_of_lt_of_le hg hW.size) ((hW.cell (p := ⟨g, 0, none⟩) hg).trans HC.out))
      clear hl
      go_wp2_with fail
      refine (K.out _ hbel).mono ?_
      rintro x w2 ⟨rfl, hb2⟩
      have B2 := Lib.hid (hbel.trans (hb2.mono hbel.size))
      clear hb2
      cases ht : (l.name.toList == name.toList)
      · have HN := Lib.hid (show ∀ j l, j < k + 1 → ls[j]? = some l → (l.name.toList == name.toList) = false from fun j l2 hj hl2 => by
          rcases Nat.lt_or_ge j k with h1 | h1
          · exact Hno.out j l2 h1 hl2
          · have : j = k := by omega
            subst this
            rw [HL.out] at hl2
            cases hl2
            exact ht)
        clear ht
        go_wp2
        go_roundw
        case rel => exact ⟨k + 1, by omega, by go_num, HN.out, B2.out⟩
        case measure => simp [intOf]; omega
      · have HT := Lib.hid (show P.destI ls name = (k : Int) from by unfold P.destI; rw [P.destAt_some HL.out ht Hno.out])
        clear ht
        go_wp2
        go_ret
        rw [HT.out]
        exact ⟨rfl, B2.out⟩
    · have HT := Lib.hid (show P.destI ls name = -1 from by unfold P.destI; rw [P.destAt_none (fun j l hj hl => Hno.out j l (by have := H.out.len; omega) hl)])
      go_wp2
      go_ret
      rw [HT.out]
      exact ⟨rfl, hbel⟩
set_option maxRecDepth 100000 in
set_option maxHeartbeats 1000000 in
theorem leg_any (id run tm st dn flt : Int) (raw : ByteArray) (A : Option Addr) (m cp : Nat) (ls : List P.Leg) (name : ByteArray) (B : Nat) (w : World) (h : LegsAt w B A m ls) (hB : B ≤ w.heap.size) (hm : m ≤ maxLen) :
    Calls Try.prog 23 #[.agg #[.int .i64 id, .int .i64 run, .int .i64 tm, .int .i64 st, .int .i64 dn, .string raw, .int .i64 flt, .slice A m cp], .string name] w fun x w' => x = .returned (.int .i64 (P.legI ls name)) ∧ Below w.heap.size w w' := by
  have hb := ((Below.refl w.heap.size w).alloc (Nat.le_refl _) (.cells #[.int .i64 id, .int .i64 run, .int .i64 tm, .int .i64 st, .int .i64 dn, .string raw, .int .i64 flt, .slice A m cp] 33)).alloc (by simp) (.cells #[.string name] 9)
  have hh := (h.below (hb.mono hB))
  have hc : ((w.alloc (.cells #[.int .i64 id, .int .i64 run, .int .i64 tm, .int .i64 st, .int .i64 dn, .string raw, .int .i64 flt, .slice A m cp] 33)).alloc (.cells #[.string name] 9)).cell? ⟨w.heap.size + 1, 0, none⟩ = some (.string name) := by
    have := (Blk.new (w.alloc (.cells #[.int .i64 id, .int .i64 run, .int .i64 tm, .int .i64 st, .int .i64 dn, .string raw, .int .i64 flt, .slice A m cp] 33)) 9 #[.string name]).cell 0
    rw [show (w.alloc (.cells #[.int .i64 id, .int .i64 run, .int .i64 tm, .int .i64 st, .int .i64 dn, .string raw, .int .i64 flt, .slice A m cp] 33)).heap.size = w.heap.size + 1 from by simp] at this
    exact this
  have K := Lib.hid (indexLeg_any A m cp ls name (w.heap.size + 1) B _ hh (by simp; omega) hm (by simp) hc)
  have HB := Lib.hid hb
  clear hb hh hc h
  go_enter Try.func23, Try.ntmps23
  go_wp2_with fail
  refine K.out.mono ?_
  rintro x w2 ⟨rfl, hb2⟩
  have B2 := Lib.hid (HB.out.trans (hb2.mono HB.out.size))
  clear hb2
  go_wp2
  go_ret
  exact ⟨rfl, B2.out⟩
end Go.Proofs.Ytjbhlojfmcldjab
