/- What slices.Contains of texts and prune.Legs return. -/
import Derived.Test.YtjbhlojfmcldjabPr3
namespace Go.Proofs.Ytjbhlojfmcldjab
set_option linter.unusedVariables false
open Go.RowKit Go.BigFrame
def StrsAt (w : World) (B : Nat) (A : Option Addr) (n : Nat) (l : List ByteArray) : Prop := Reads w B 1 A n (l.map Value.string)
section
variable {w w' : World} {B n : Nat} {A : Option Addr} {l : List ByteArray}
theorem StrsAt.len (h : StrsAt w B A n l) : l.length = n := by
  have := h.1
  simpa using this
theorem StrsAt.below (h : StrsAt w B A n l) (hb : Below B w w') : StrsAt w' B A n l := Reads.below h hb
theorem StrsAt.in_ {k : Nat} (h : StrsAt w B A n l) (hk : k < n) : ∃ ad s, A = some ad ∧ ad.block < B ∧ l[k]? = some s ∧ w.cell? (ad.add k) = some (.string s) := by
  obtain ⟨ad, e, hb, hc⟩ := h.2 (by omega)
  have hl := h.len
  exact ⟨ad, l[k]'(by omega), e, hb, List.getElem?_eq_getElem (by omega), hc k _ (by rw [List.getElem?_map, List.getElem?_eq_getElem (by omega)]; rfl)⟩
theorem OwnS.reads {v : Value} (h : OwnS w B v l) : ∃ A c, v = .slice A l.length c ∧ StrsAt w w.heap.size A l.length l := by
  rcases h.2 with ⟨rfl, hn⟩ | ⟨g, cap, cur, rfl, hg, hh, r⟩
  · exact ⟨none, 0, by rw [hn], by rw [hn, List.eq_nil_of_length_eq_zero hn]; exact Reads.nil⟩
  · exact ⟨_, _, rfl, Reads.of_own h⟩
end
namespace P
def strAt (l : List ByteArray) (x : ByteArray) : Option Nat := l.findIdx? fun s => x.data.toList == s.data.toList
def strI (l : List ByteArray) (x : ByteArray) : Int := match strAt l x with | none => -1 | some k => (k : Int)
def hasS (l : List ByteArray) (x : ByteArray) : Bool := l.any fun s => x.data.toList == s.data.toList
theorem hasS_eq (l : List ByteArray) (x : ByteArray) : decide (0 ≤ strI l x) = hasS l x := by
  unfold strI strAt hasS
  cases h : l.findIdx? fun s => x.data.toList == s.data.toList with
  | none =>
    rw [List.findIdx?_eq_none_iff] at h
    have : (l.any fun s => x.data.toList == s.data.toList) = false := by rw [List.any_eq_false]; intro s hs; rw [h s hs]; simp
    rw [this]
    rfl
  | some k =>
    obtain ⟨hk, hp, _⟩ := List.findIdx?_eq_some_iff_getElem.1 h
    have : (l.any fun s => x.data.toList == s.data.toList) = true := by rw [List.any_eq_true]; exact ⟨l[k], List.getElem_mem hk, hp⟩
    rw [this]
    simp
theorem strAt_some {ls : List ByteArray} {x : ByteArray} {k : Nat} {l : ByteArray} (hl : ls[k]? = some l) (h : (x.toList == l.toList) = true) (hno : ∀ j l, j < k → ls[j]? = some l → (x.toList == l.toList) = false) : strI ls x = k := by
  have hk : k < ls.length := by
    rcases Nat.lt_or_ge k ls.length with h1 | h1
    · exact h1
    · rw [List.getElem?_eq_none h1] at hl; cases hl
  have : strAt ls x = some k := by
    unfold strAt
    rw [List.findIdx?_eq_some_iff_getElem]
    rw [List.getElem?_eq_getElem hk] at hl
    cases hl
    refine ⟨hk, by simpa [ByteArray.toList_eq] using h, fun j hj => ?_⟩
    have := hno j _ hj (List.getElem?_eq_getElem (by omega))
    simpa [ByteArray.toList_eq] using this
  unfold strI
  rw [this]
theorem strAt_none {ls : List ByteArray} {x : ByteArray} (hno : ∀ j l, j < ls.length → ls[j]? = some l → (x.toList == l.toList) = false) : strI ls x = -1 := by
  have : strAt ls x = none := by
    unfold strAt
    rw [List.findIdx?_eq_none_iff]
    intro l hl
    obtain ⟨j, hj⟩ := List.getElem?_of_mem hl
    have hjl : j < ls.length := by
      rcases Nat.lt_or_ge j ls.length with h1 | h1
      · exact h1
      · rw [List.getElem?_eq_none h1] at hj; cases hj
    have := hno j l hjl hj
    simpa [ByteArray.toList_eq] using this
  unfold strI
  rw [this]
end P
set_option maxRecDepth 100000 in
set_option maxHeartbeats 1000000 in
theorem index_any (A : Option Addr) (n c : Nat) (l : List ByteArray) (x : ByteArray) (B : Nat) (w : World) (h : StrsAt w B A n l) (hn : n ≤ maxLen) : Calls Try.prog 37 #[.slice A n c, .string x] w fun e w' => e = .returned (.int .i64 (P.strI l x)) ∧ w = w' := by
  unfold maxLen at hn
  have H := Lib.hid h
  clear h
  go_enter Try.func37, Try.ntmps37
  go_wp2_with fail
  go_loop [8] (fun i => ∃ k : Nat, k ≤ n ∧ i = .int .i64 k ∧ (∀ j s, j < k → l[j]? = some s → (x.toList == s.toList) = false)) (fun i => n - (intOf i).toNat)
  case atStart => exact ⟨0, by omega, rfl, fun j s hj => by omega⟩
  case round =>
    obtain ⟨k, hk, rfl, hno⟩ := hrel
    have Hno := Lib.hid hno
    clear hno
    by_cases hlt : k < n
    · obtain ⟨ad, s, rfl, hb, hl, hc⟩ := H.out.in_ hlt
      have HL := Lib.hid hl
      clear hl
      cases ht : (x.toList == s.toList)
      · have HN := Lib.hid (show ∀ j s, j < k + 1 → l[j]? = some s → (x.toList == s.toList) = false from fun j l2 hj hl2 => by
          rcases Nat.lt_or_ge j k with h1 | h1
          · exact Hno.out j l2 h1 hl2
          · have : j = k := by omega
            subst this
            rw [HL.out] at hl2
            cases hl2
            exact ht)
        go_wp2
        go_round
        case rel => exact ⟨k + 1, by omega, by go_num, HN.out⟩
        case measure => simp [intOf]; omega
      · have HT := Lib.hid (P.strAt_some HL.out ht Hno.out)
        go_wp2
        go_ret
        rw [HT.out]
        exact ⟨rfl, rfl⟩
    · have HT := Lib.hid (P.strAt_none (ls := l) (x := x) (fun j l hj hl => Hno.out j l (by have := H.out.len; omega) hl))
      go_wp2
      go_ret
      rw [HT.out]
      exact ⟨rfl, rfl⟩
set_option maxRecDepth 100000 in
set_option maxHeartbeats 1000000 in
theorem contains_any (A : Option Addr) (n c : Nat) (l : List ByteArray) (x : ByteArray) (B : Nat) (w : World) (h : StrsAt w B A n l) (hn : n ≤ maxLen) : Calls Try.prog 22 #[.slice A n c, .string x] w fun e w' => e = .returned (.bool (P.hasS l x)) ∧ w = w' := by
  have K := Lib.hid (index_any A n c l x B w h hn)
  have HS := Lib.hid (P.hasS_eq l x)
  clear h
  generalize P.strI l x = i at *
  go_enter Try.func22, Try.ntmps22
  go_wp2_with fail
  refine K.out.mono ?_
  rintro e w2 ⟨rfl, rfl⟩
  go_wp2
  go_ret
  rw [← HS.out]
  exact ⟨rfl, rfl⟩
/-- Legs that the call itself has gathered. -/
def OwnL (w : World) (B : Nat) (v : Value) (l : List P.Leg) : Prop := w.ownsRow B 40 6 v l.length (l.flatMap P.Leg.cells)
theorem infoLeg : (Try.prog.info? 40).map (fun i => (i.zero, i.size, i.bytes)) = some (some (.agg #[.string ByteArray.empty, .int .i64 0, .int .i64 0, .int .i64 0, .string ByteArray.empty, .string ByteArray.empty]), 6, 72) := by kernel_rfl
theorem leg_one (l : P.Leg) : ∀ u ∈ l.cells, u.oneCell' = true := by
  intro u hu
  simp [P.Leg.cells] at hu
  rcases hu with rfl | rfl | rfl | rfl | rfl | rfl <;> rfl
section
variable {w w' : World} {B B' : Nat} {v : Value} {l : List P.Leg}
theorem OwnL.nil (w : World) (B : Nat) : OwnL w B (.slice none 0 0) [] := World.ownsRow_nil _ _ _ _
theorem OwnL.alloc (h : OwnL w B v l) (o : Obj) : OwnL (w.alloc o) B v l := World.ownsRow.alloc h o
theorem OwnL.below {C : Nat} (h : OwnL w B v l) (hb : Below C w w') (hC : w.heap.size ≤ C) : OwnL w' B v l := by
  obtain ⟨h1, h2⟩ := h
  refine ⟨h1, ?_⟩
  rcases h2 with h2 | ⟨g, cap, cur, hv, hg, hh, r⟩
  · exact .inl h2
  · have hlt : g < w.heap.size := by
      rcases Nat.lt_or_ge g w.heap.size with h | h
      · exact h
      · rw [Array.getElem?_eq_none h] at hh; cases hh
    exact .inr ⟨g, cap, cur, hv, hg, by rw [hb.block g (by omega)]; exact hh, r⟩
theorem OwnL.less (h : OwnL w B v l) (hB : B' ≤ B) : OwnL w B' v l := by
  obtain ⟨h1, h2⟩ := h
  refine ⟨h1, ?_⟩
  rcases h2 with h2 | ⟨g, cap, cur, hv, hg, r⟩
  · exact .inl h2
  · exact .inr ⟨g, cap, cur, hv, Nat.le_trans hB hg, r⟩
theorem newsL (w : World) (t : TypeId) (l : P.Leg) : ∀ j u, l.cells[j]? = some u → (w.alloc (.cells #[.string l.name, .int .i64 l.status, .int .i64 l.tries, .int .i64 l.due, .string l.payload, .string l.reply] t)).cell? ((⟨w.heap.size, 0, none⟩ : Addr).add j) = some u := by
  intro j u hu
  rw [Addr.add_lit, Nat.zero_add, (Blk.new w t #[.string l.name, .int .i64 l.status, .int .i64 l.tries, .int .i64 l.due, .string l.payload, .string l.reply]).cell, show (#[.string l.name, .int .i64 l.status, .int .i64 l.tries, .int .i64 l.due, .string l.payload, .string l.reply] : Array Value) = l.cells.toArray from rfl, List.getElem?_toArray]
  exact hu
theorem wpList_append_leg1 {w : World} {ops : Array Oper} {rest : List Oper} {o : Oper} {a : Act} {Q : Exit → Act → World → Prop} (hgd : o.guard = none) (s x : Operand)
    (ho : o.op = .call { callee := .builtin .append, args := #[s, x], argTypes := #[29, 29] })
    (B : Nat) (v : Value) (l : List P.Leg) (hs : a.eval s = v) (hown : OwnL w B v l)
    (ad : Addr) (u : P.Leg) (hx : a.eval x = .slice (some ad) 1 1) (hnews : ∀ j z, u.cells[j]? = some z → w.cell? (ad.add j) = some z)
    (hbytes : l.length + 1 ≤ 1099511627777) (hbase : B ≤ w.heap.size)
    (h : ∀ v' w', OwnL w' B v' (l ++ [u]) → Below B w w' → w.grownBy w' v.ownBlock → wpList Try.prog ops Q rest (a.put o.dst v') w') : wpList Try.prog ops Q (o :: rest) a w := by
  obtain ⟨i, hi, hz, hs1, hb1⟩ := info_parts infoLeg
  refine wpList_append_own w hgd s x 29 ho B 40 i _ 6 72 Try.underlying29 hi hz hs1 hb1 rfl (by omega) v l.length (l.flatMap P.Leg.cells) hs hown ad 1 1 u.cells hx (by rw [leg_len])
    hnews (leg_one u) (by unfold maxLen; omega) (by omega) hbase ?_
  intro v' w' hown' hg _
  refine h v' w' ?_ ((Below.refl _ _).grown hg hbase (fun k hk => (World.ownsRow.lt hown k hk).1)) hg
  unfold OwnL
  rw [List.length_append, List.flatMap_append, List.flatMap_cons, List.flatMap_nil, List.append_nil]
  exact hown'
end
end Go.Proofs.Ytjbhlojfmcldjab
