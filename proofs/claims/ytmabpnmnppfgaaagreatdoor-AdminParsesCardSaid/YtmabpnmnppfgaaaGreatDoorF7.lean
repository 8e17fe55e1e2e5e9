/- Part F7 of the proof: the statement that is proved stands in the text that ends with its name. No conditions beyond the card's. -/
import Derived.Test.YtmabpnmnppfgaaaGreatDoorA8
import Derived.Test.YtmabpnmnppfgaaaGreatDoorF6
import Derived.ArgAppend
import Derived.Deep.DeepAppendRoom
namespace Go.Proofs.YtmabpnmnppfgaaaGreatDoor
set_option linter.unusedVariables false
open Go Go.RowKit Go.BigFrame
namespace Ad
theorem nums_of {toks : List Tok} {L : Bs} {c : Step} (hx : ScanX L (.ok toks)) (h : parseT (toks ++ [endT]) = some c) : c.nums.length ≤ 1 ∧ ∀ n ∈ c.nums, 0 ≤ n ∧ n ≤ 2147483647 := by
  obtain ⟨s, sh, h1, hf, h3, h4⟩ := fit (fun t ht => by
    rcases List.mem_append.1 ht with h1 | h1
    · exact scan_good (scanX_R hx) toks rfl t h1
    · rw [List.mem_singleton] at h1
      rw [h1]
      exact end_good) h
  have hl := hf.2.2.1
  cases hsm : sh.2.2 with
  | false =>
    rw [hsm] at hl
    simp at hl
    rw [hl]
    exact ⟨by simp, fun n hn => by cases hn⟩
  | true =>
    rw [hsm] at hl
    obtain ⟨n1, hn1⟩ := List.length_eq_one_iff.1 hl
    have h6 := hf.2.2.2.2.2 hsm
    rw [hn1] at h6 ⊢
    refine ⟨by simp, fun n hn => ?_⟩
    simp at hn
    subst hn
    simpa using h6
end Ad
def ProgOut (W w' : World) (e' : Ending) : Except Int (List Ad.Tok) → Prop
  | .error er => e' = .returned (.tuple #[.agg zs, .int .i64 er])
  | .ok l => match Ad.parseT (l ++ [Ad.endT]) with
    | none => e' = .returned (.tuple #[.agg zs, .int .i64 100])
    | some c => ∃ v, NumsNew W w' v c.nums ∧ e' = .returned (.tuple #[.agg #[.string ⟨c.word.toArray⟩, v, .string ⟨c.name.toArray⟩, .string ⟨c.data.toArray⟩], .int .i64 0])
theorem both_parse (s : ByteArray) (hs : s.size ≤ 100000) {w1 w2 : World} {e : Ending} (h : RParseOut s w1 e w2) :
    ∃ (cw cn cd : ByteArray) (ms : List Int) (er : Int) (v : Value), e = .returned (.tuple #[.agg #[.string cw, v, .string cn, .string cd], .int .i64 er]) ∧ NumsR w2 w1.heap.size v ms ∧ ms.length ≤ 1 ∧ (∀ n ∈ ms, 0 ≤ n ∧ n ≤ 2147483647) ∧
      ∀ W : World, Calls Tryz.prog 6 #[.string s] W fun e' w' => (∃ v', e' = .returned (.tuple #[.agg #[.string cw, v', .string cn, .string cd], .int .i64 er]) ∧ NumsNew W w' v' ms) ∧ Below W.heap.size W w' := by
  obtain ⟨x, hx1, hx2, hx⟩ := h
  have hsame : ∀ x' : Except Int (List Ad.Tok), (s.size ≤ 65536 → Ad.ScanX s.data.toList x') → (65536 < s.size → x' = .error 2) → x' = x := fun x' k1 k2 => by
    rcases Nat.lt_or_ge 65536 s.size with h | h
    · rw [k2 h, hx2 h]
    · exact (k1 h).unique (hx1 h)
  have hprog : ∀ W : World, Calls Tryz.prog 6 #[.string s] W fun e' w' => ProgOut W w' e' x ∧ Below W.heap.size W w' := fun W => by
    refine (parse_any s W hs).mono ?_
    rintro e' w' ⟨⟨x', k1, k2, k3⟩, hb⟩
    have := hsame x' k1 k2
    subst this
    refine ⟨?_, hb⟩
    cases x' <;> exact k3
  cases x with
  | error er =>
    refine ⟨⟨#[]⟩, ⟨#[]⟩, ⟨#[]⟩, [], er, .slice none 0 0, hx, .inl ⟨rfl, rfl⟩, by simp, (fun n hn => by cases hn), fun W => (hprog W).mono ?_⟩
    rintro e' w' ⟨rfl, hb⟩
    exact ⟨⟨_, rfl, .inl ⟨rfl, rfl⟩⟩, hb⟩
  | ok l =>
    unfold ProgOut at hprog
    simp only at hx hprog
    have hl : Ad.ScanX s.data.toList (.ok l) := by
      rcases Nat.lt_or_ge 65536 s.size with h | h
      · have := hx2 h
        cases this
      · exact hx1 h
    rw [Ad.parseR_T l (Ad.scanX_kind hl l rfl)] at hx
    cases hp : Ad.parseT (l ++ [Ad.endT]) with
    | none =>
      rw [hp] at hx hprog
      refine ⟨⟨#[]⟩, ⟨#[]⟩, ⟨#[]⟩, [], 100, .slice none 0 0, hx, .inl ⟨rfl, rfl⟩, by simp, (fun n hn => by cases hn), fun W => (hprog W).mono ?_⟩
      rintro e' w' ⟨rfl, hb⟩
      exact ⟨⟨_, rfl, .inl ⟨rfl, rfl⟩⟩, hb⟩
    | some c =>
      rw [hp] at hx hprog
      obtain ⟨v, hv, rfl⟩ := hx
      obtain ⟨n1, n2⟩ := Ad.nums_of hl hp
      refine ⟨_, _, _, c.nums, 0, v, rfl, hv, n1, n2, fun W => (hprog W).mono ?_⟩
      rintro e' w' ⟨⟨v', h1, rfl⟩, hb⟩
      exact ⟨⟨v', rfl, h1⟩, hb⟩
theorem PrintOut.same {c : Ad.Step} {e1 e2 : Ending} (h1 : PrintOut c e1) (h2 : PrintOut c e2) : ∃ (s : ByteArray) (er : Int), e1 = .returned (.tuple #[.string s, .int .i64 er]) ∧ e2 = .returned (.tuple #[.string s, .int .i64 er]) := by
  rcases h1 with ⟨s1, p1, r1⟩ | ⟨n1, er1, rfl, r1⟩ <;> rcases h2 with ⟨s2, p2, r2⟩ | ⟨n2, er2, rfl, r2⟩
  · obtain ⟨sh1, a1, _, b1, _⟩ := p1
    have b2 := Ad.prints_out a1 p2
    have : s1 = s2 := by rw [← bytes_back s1, b1, ← b2, bytes_back]
    subst this
    exact ⟨s1, 0, r1, r2⟩
  · exact absurd ⟨_, p1⟩ n2
  · exact absurd ⟨_, p2⟩ n1
  · exact ⟨_, 100, r1, r2⟩
theorem stepF_append {P : Program} {ops : Array Oper} {o : Oper} {a : Act} {w : World} {K : Value → World → Prop} (hg : o.guard = none) (s x : Operand) (t : TypeId) (ho : o.op = .call { callee := .builtin .append, args := #[s, x], argTypes := #[t, t] })
    {v1 vx v' : Value} {w' : World} (hs : a.eval s = v1) (hx : a.eval x = vx) (hr : (Builtin.append_ #[t, t] o.type #[v1, vx]).run P w = .ok v' w') (hK : K v' w') : stepF P ops o a w K := by
  unfold stepF
  have hw : Region.wanted o (yielded ops a.tmps) = true := by simp [Region.wanted, hg]
  rw [if_pos hw]
  unfold execOp
  simp only [ho, resolve, invoke, builtin, Sem.run_bind, Sem.run_pure, Result.andThen_ok, List.map_toArray, List.map_cons, List.map_nil, hs, hx, hr]
  exact hK
def OwnN (w : World) (B : Nat) (v : Value) (l : List Int) : Prop := w.ownsRow B 3 1 v l.length (l.map (Value.int .i64))
section
variable {w w' : World} {B : Nat} {v : Value} {l : List Int}
theorem OwnN.stays (h : OwnN w B v l) (hs : Stays w w') : OwnN w' B v l := ownsRow_blk h (fun g hg => hs.block g (World.ownsRow.lt h g hg).2)
theorem OwnN.nil (w : World) (B : Nat) : OwnN w B (.slice none 0 0) [] := ⟨by simp, .inl ⟨rfl, rfl⟩⟩
theorem append_none (w : World) (ty : TypeId) : (Builtin.append_ #[22, 22] ty #[.slice none 0 0, .slice none 0 0]).run Tryz.prog w = .ok (.slice none 0 0) w := by
  obtain ⟨i, hi, hz, hs1, hb1⟩ := info_parts infoInt
  simp [Builtin.append_, run_underlying Tryz.underlying22, sizeOf, typeInfo, hi, Builtin.lenOf, Builtin.firstCells]
theorem append_own (w : World) (ty : TypeId) (C : Nat) (v : Value) (l : List Int) (h : OwnN w C v l) (ad : Addr) (m c : Nat) (news : List Int) (hl : news.length = m) (hn : ∀ j u, news[j]? = some u → w.cell? (ad.add j) = some (.int .i64 u)) (hb : l.length + m ≤ 1000000) (hC : C ≤ w.heap.size) :
    ∃ v' w', (Builtin.append_ #[22, 22] ty #[v, .slice (some ad) m c]).run Tryz.prog w = .ok v' w' ∧ OwnN w' C v' (l ++ news) ∧ Below C w w' ∧ w.grownBy w' v.ownBlock := by
  obtain ⟨i, hi, hz, hs1, hb1⟩ := info_parts infoInt
  obtain ⟨v', w', hr, ho, hg, _, _⟩ := run_append_own_at (P := Tryz.prog) w C 22 ty 3 i _ 1 8 Tryz.underlying22 hi hz hs1 hb1 rfl (by omega) v l.length (l.map (Value.int .i64)) h ad m c (news.map (Value.int .i64)) (by simp [hl]) (fun j u hu => by
    rw [List.getElem?_map] at hu
    cases hx : news[j]? with
    | none => rw [hx] at hu; cases hu
    | some y => rw [hx] at hu; cases hu; exact hn j y hx) (fun u hu => by
    obtain ⟨y, _, rfl⟩ := List.mem_map.1 hu
    rfl) (by unfold maxLen; omega) (by omega) hC
  refine ⟨v', w', hr, ?_, (Below.refl _ _).grown hg hC (fun k hk => (World.ownsRow.lt h k hk).1), hg⟩
  unfold OwnN
  rw [List.length_append, List.map_append, hl]
  exact ho
end
structure NegI (W0 : World) (ls : List Int) (m : Nat) (L : Nat → Bool) (vs : Nat → Value) (w : World) : Prop where
  below : Below W0.heap.size W0 w
  two : L 2 = true → L 4 = false → OwnN w W0.heap.size (vs 2) ls
  three : L 3 = true → L 4 = false → ∃ g, vs 3 = .slice (some ⟨g, 0, none⟩) 1 1 ∧ Blk w g 3 #[.int .i64 (-77)]
  four : L 4 = true → OwnN w W0.heap.size (vs 4) (ls ++ [-77])
  eight : L 8 = true → ∃ g cap, vs 4 = .slice (some ⟨g, 0, none⟩) (m + 1) cap ∧ vs 8 = .slice (some ⟨g, 0, none⟩) m cap
  w42 : L 4 = true → L 2 = true
  w43 : L 4 = true → L 3 = true
  w84 : L 8 = true → L 4 = true
section
variable {W0 : World} {ls : List Int} {m : Nat} {L : Nat → Bool} {vs : Nat → Value} {w w' : World}
theorem off_of {p q : Bool} (h : p = true → q = true) (hq : q = false) : p = false := by
  cases p with
  | false => rfl
  | true => rw [h rfl] at hq; cases hq
theorem NegI.start (W0 : World) : NegI W0 ls m (fun _ => false) vs { W0 with drawn := W0.drawn + 1 } :=
  ⟨⟨rfl, rfl, rfl, Nat.le_refl _, fun _ _ => rfl⟩, (fun h => by cases h), (fun h => by cases h), (fun h => by cases h), (fun h => by cases h), (fun h => by cases h), (fun h => by cases h), (fun h => by cases h)⟩
theorem NegI.pure (h : NegI W0 ls m L vs w) {k : Nat} {v : Value} (h2 : k ≠ 2) (h3 : k ≠ 3) (h4 : k ≠ 4) (h8 : k ≠ 8) : NegI W0 ls m (upd L k) (updv vs k v) w := by
  have e2 : upd L k 2 = L 2 := by simp [upd, Ne.symm h2]
  have e3 : upd L k 3 = L 3 := by simp [upd, Ne.symm h3]
  have e4 : upd L k 4 = L 4 := by simp [upd, Ne.symm h4]
  have e8 : upd L k 8 = L 8 := by simp [upd, Ne.symm h8]
  have v2 : updv vs k v 2 = vs 2 := by simp [updv, Ne.symm h2]
  have v3 : updv vs k v 3 = vs 3 := by simp [updv, Ne.symm h3]
  have v4 : updv vs k v 4 = vs 4 := by simp [updv, Ne.symm h4]
  have v8 : updv vs k v 8 = vs 8 := by simp [updv, Ne.symm h8]
  exact ⟨h.below, by rw [e2, e4, v2]; exact h.two, by rw [e3, e4, v3]; exact h.three, by rw [e4, v4]; exact h.four, by rw [e8, v4, v8]; exact h.eight, by rw [e4, e2]; exact h.w42, by rw [e4, e3]; exact h.w43, by rw [e8, e4]; exact h.w84⟩
theorem NegI.op2 (h : NegI W0 ls m L vs w) (hL : L 2 = false) {v : Value} (ho : OwnN w' W0.heap.size v ls) (hs : Stays w w') : NegI W0 ls m (upd L 2) (updv vs 2 v) w' := by
  have h4 := off_of h.w42 hL
  have h8 := off_of h.w84 h4
  refine ⟨h.below.trans (hs.mono h.below.size), fun _ _ => by simpa [updv] using ho, fun h3 _ => ?_, fun hh => ?_, fun hh => ?_, fun hh => ?_, fun hh => ?_, fun hh => ?_⟩
  · obtain ⟨g, e, hk⟩ := h.three (by simpa [upd] using h3) h4
    exact ⟨g, by simpa [updv] using e, hk.stays hs⟩
  · simp [upd, h4] at hh
  · simp [upd, h8] at hh
  · simp [upd]
  · simp [upd, h4] at hh
  · simp [upd, h8] at hh
theorem NegI.op3 (h : NegI W0 ls m L vs w) (hL : L 3 = false) : NegI W0 ls m (upd L 3) (updv vs 3 (.slice (some ⟨w.heap.size, 0, none⟩) 1 1)) (w.alloc (.cells #[.int .i64 (-77)] 3)) := by
  have h4 := off_of h.w43 hL
  have h8 := off_of h.w84 h4
  refine ⟨h.below.alloc h.below.size _, fun h2 _ => ?_, fun _ _ => ⟨w.heap.size, by simp [updv], Blk.new _ _ _⟩, fun hh => ?_, fun hh => ?_, fun hh => ?_, fun hh => ?_, fun hh => ?_⟩
  · have := (h.two (by simpa [upd] using h2) h4).stays (Stays.alloc w (.cells #[.int .i64 (-77)] 3))
    simpa [updv] using this
  · simp [upd, h4] at hh
  · simp [upd, h8] at hh
  · simp [upd, h4] at hh
  · simp [upd]
  · simp [upd, h8] at hh
theorem NegI.op4 (h : NegI W0 ls m L vs w) (hL : L 4 = false) (h2 : L 2 = true) (h3 : L 3 = true) {v : Value} (ho : OwnN w' W0.heap.size v (ls ++ [-77])) (hb : Below W0.heap.size w w') : NegI W0 ls m (upd L 4) (updv vs 4 v) w' := by
  have h8 := off_of h.w84 hL
  refine ⟨h.below.trans hb, fun _ hh => ?_, fun _ hh => ?_, fun _ => by simpa [updv] using ho, fun hh => ?_, fun _ => by simpa [upd] using h2, fun _ => by simpa [upd] using h3, fun hh => by simp [upd]⟩
  · simp [upd] at hh
  · simp [upd] at hh
  · simp [upd, h8] at hh
theorem NegI.op8 (h : NegI W0 ls m L vs w) (h4 : L 4 = true) {g cap : Nat} (e : vs 4 = .slice (some ⟨g, 0, none⟩) (m + 1) cap) : NegI W0 ls m (upd L 8) (updv vs 8 (.slice (some ⟨g, 0, none⟩) m cap)) w := by
  refine ⟨h.below, fun a b => ?_, fun a b => ?_, fun a => ?_, fun _ => ⟨g, cap, by simpa [updv] using e, by simp [updv]⟩, fun a => ?_, fun a => ?_, fun a => by simpa [upd] using h4⟩
  · simp [upd, h4] at b
  · simp [upd, h4] at b
  · simpa [updv] using h.four h4
  · simpa [upd] using h.w42 h4
  · simpa [upd] using h.w43 h4
end
theorem OwnN.form {w : World} {B : Nat} {v : Value} {l : List Int} (h : OwnN w B v l) (hl : l ≠ []) : ∃ g cap, v = .slice (some ⟨g, 0, none⟩) l.length cap ∧ B ≤ g ∧ g < w.heap.size ∧ l.length ≤ cap ∧ cap ≤ maxLen ∧ ∀ (j : Nat) n, l[j]? = some n → w.cell? ⟨g, j, none⟩ = some (.int .i64 n) := by
  rcases h.2 with ⟨h1, h2⟩ | ⟨g, cap, cur, hv, hgB, hh, hn, hm, _⟩
  · exact absurd (List.eq_nil_of_length_eq_zero h2) hl
  · refine ⟨g, cap, hv, hgB, ?_, hn, hm, fun j n hj => ?_⟩
    · rcases Nat.lt_or_ge g w.heap.size with h | h
      · exact h
      · rw [Array.getElem?_eq_none h] at hh; cases hh
    · have := World.ownsRow.cells h (g := g) (by rw [hv]; rfl) j (.int .i64 n) (by rw [List.getElem?_map, hj]; rfl)
      rwa [Addr.add_lit, Nat.zero_add] at this
end Go.Proofs.YtmabpnmnppfgaaaGreatDoor
