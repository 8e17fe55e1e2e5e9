/- Bytes that the call itself has gathered: a slice that owns a list of bytes; append, make, the text of it. Plain lemmas. -/
import Derived.Test.YtefebcibcmjbaabWords
import Derived.OwnWalk
import Derived.Laws.OwnMore
import Derived.StillTailTactics
namespace Go.Proofs.Ytefebcibcmjbaab
set_option linter.unusedVariables false
open Go.RowKit
def valU8 (b : UInt8) : Value := .int .u8 (b.toNat : Int)
def OwnB (w : World) (B : Nat) (v : Value) (l : List UInt8) : Prop := w.ownsRow B 5 1 v l.length (l.map valU8)
theorem valU8_one (l : List UInt8) : ∀ u ∈ l.map valU8, u.oneCell' = true := by
  intro u hu
  obtain ⟨_, _, rfl⟩ := List.mem_map.1 hu
  rfl
section
variable {w w' : World} {B B' : Nat} {v : Value} {l : List UInt8}
theorem OwnB.nil (w : World) (B : Nat) : OwnB w B (.slice none 0 0) [] := World.ownsRow_nil _ _ _ _
theorem OwnB.drew (h : OwnB w B v l) : OwnB w.drew B v l := h
theorem OwnB.drewN (h : OwnB w B v l) (n : Nat) : OwnB (w.drewN n) B v l := h
theorem OwnB.alloc (h : OwnB w B v l) (o : Obj) : OwnB (w.alloc o) B v l := World.ownsRow.alloc h o
theorem OwnB.less (h : OwnB w B v l) (hB : B' ≤ B) : OwnB w B' v l := by
  obtain ⟨h1, h2⟩ := h
  refine ⟨h1, ?_⟩
  rcases h2 with h2 | ⟨g, cap, cur, hv, hg, r⟩
  · exact .inl h2
  · exact .inr ⟨g, cap, cur, hv, Nat.le_trans hB hg, r⟩
theorem OwnB.below {C : Nat} (h : OwnB w B v l) (hb : Below C w w') (hC : w.heap.size ≤ C) : OwnB w' B v l := by
  obtain ⟨h1, h2⟩ := h
  refine ⟨h1, ?_⟩
  rcases h2 with h2 | ⟨g, cap, cur, hv, hg, hh, r⟩
  · exact .inl h2
  · have hlt : g < w.heap.size := by
      rcases Nat.lt_or_ge g w.heap.size with h | h
      · exact h
      · rw [Array.getElem?_eq_none h] at hh; cases hh
    exact .inr ⟨g, cap, cur, hv, hg, by rw [hb.block g (by omega)]; exact hh, r⟩
theorem OwnB.made (w : World) (n : Nat) (hn : n ≤ maxLen) : OwnB (w.alloc (.cells (cellsU8 (List.replicate n 0)) 5)) w.heap.size (.slice (some ⟨w.heap.size, 0, none⟩) 0 n) [] :=
  ⟨by simp, .inr ⟨w.heap.size, n, cellsU8 (List.replicate n 0), rfl, Nat.le_refl _, heap_alloc_new w _, Nat.zero_le _, hn, by simp [cellsU8_size], by simp⟩⟩
theorem OwnB.lit (w : World) (l : List UInt8) (hn : l.length ≤ maxLen) : OwnB (w.alloc (.cells (cellsU8 l) 5)) w.heap.size (.slice (some ⟨w.heap.size, 0, none⟩) l.length l.length) l :=
  ⟨by simp, .inr ⟨w.heap.size, l.length, cellsU8 l, rfl, Nat.le_refl _, heap_alloc_new w _, Nat.le_refl _, hn, by simp [cellsU8_size], by
    simp only [cellsU8, Nat.mul_one]
    rw [List.take_of_length_le (by simp)]
    rfl⟩⟩
theorem OwnB.string (h : OwnB w B v l) : (convert 32 9 v).run Try.prog w = .ok (.string ⟨l.toArray⟩) w := by
  rcases h.2 with ⟨rfl, hn⟩ | ⟨g, cap, cur, rfl, hg, hh, r⟩
  · have hl : l = [] := List.eq_nil_of_length_eq_zero hn
    subst hl
    exact run_convert_bytes_nil (P := Try.prog) w 32 5 Try.underlying32 Try.underlying5 0 0 9 Try.underlying9
  · have hc := World.ownsRow.cells h (g := g) rfl
    have h1 := run_convert_bytes_arg (P := Try.prog) w 32 5 Try.underlying32 Try.underlying5 g 0 l.length cap (l.map fun b => (b.toNat : Int)) (by simp) (fun i hi => by
      have hx := hc i (valU8 l[i]) (by simp [hi])
      rw [Addr.add_lit] at hx
      rw [hx]
      simp [valU8, hi]) 9 Try.underlying9
    rw [h1]
    have he : ((fun n : Int => UInt8.ofNat n.toNat) ∘ fun b : UInt8 => (b.toNat : Int)) = id := by funext b; simp
    simp [strOfNums, he]
end
/-- append of bytes onto a row of the call's own. -/
theorem wpList_append_bytes {w : World} {ops : Array Oper} {rest : List Oper} {o : Oper} {a : Act} {Q : Exit → Act → World → Prop} (hgd : o.guard = none) (s x : Operand)
    (ho : o.op = .call { callee := .builtin .append, args := #[s, x], argTypes := #[32, 32] })
    (B : Nat) (v : Value) (l : List UInt8) (hs : a.eval s = v) (hown : OwnB w B v l)
    (ad : Addr) (m c : Nat) (news : List UInt8) (hx : a.eval x = .slice (some ad) m c) (hl : news.length = m) (hnews : ∀ j u, news[j]? = some u → w.cell? (ad.add j) = some (valU8 u))
    (hbytes : l.length + m ≤ 140737488355328) (hbase : B ≤ w.heap.size)
    (h : ∀ v' w', OwnB w' B v' (l ++ news) → Below B w w' → wpList Try.prog ops Q rest (a.put o.dst v') w') : wpList Try.prog ops Q (o :: rest) a w := by
  obtain ⟨i, hi, hz, hs1, hb1⟩ := info_parts infoU8
  refine wpList_append_own w hgd s x 32 ho B 5 i (.int .u8 0) 1 1 Try.underlying32 hi hz hs1 hb1 rfl (by omega) v l.length (l.map valU8) hs hown ad m c (news.map valU8) hx (by simp [hl])
    (fun j u hu => by
      rw [List.getElem?_map] at hu
      obtain ⟨b, hb, rfl⟩ := Option.map_eq_some_iff.1 hu
      exact hnews j b hb) (valU8_one _) (by unfold maxLen; omega) (by omega) hbase ?_
  intro v' w' hown' hg _
  refine h v' w' ?_ ((Below.refl _ _).grown hg hbase (fun k hk => (World.ownsRow.lt hown k hk).1))
  unfold OwnB
  rw [List.length_append, List.map_append, hl]
  exact hown'
/-- append of bytes within the capacity. -/
theorem wpList_append_bytes_fits {w : World} {ops : Array Oper} {rest : List Oper} {o : Oper} {a : Act} {Q : Exit → Act → World → Prop} (hgd : o.guard = none) (s x : Operand)
    (ho : o.op = .call { callee := .builtin .append, args := #[s, x], argTypes := #[32, 32] })
    (B g cap : Nat) (l : List UInt8) (hs : a.eval s = .slice (some ⟨g, 0, none⟩) l.length cap) (hown : OwnB w B (.slice (some ⟨g, 0, none⟩) l.length cap) l)
    (ad : Addr) (m c : Nat) (news : List UInt8) (hx : a.eval x = .slice (some ad) m c) (hl : news.length = m) (hnews : ∀ j u, news[j]? = some u → w.cell? (ad.add j) = some (valU8 u))
    (hcap : l.length + m ≤ cap) (hbase : B ≤ w.heap.size)
    (h : ∀ w', OwnB w' B (.slice (some ⟨g, 0, none⟩) (l ++ news).length cap) (l ++ news) → Below B w w' → wpList Try.prog ops Q rest (a.put o.dst (.slice (some ⟨g, 0, none⟩) (l ++ news).length cap)) w') : wpList Try.prog ops Q (o :: rest) a w := by
  obtain ⟨i, hi, hz, hs1, hb1⟩ := info_parts infoU8
  refine wpList_append_fits w hgd s x 32 ho B 5 i 1 Try.underlying32 hi hs1 g l.length cap (l.map valU8) hs hown ad m c (news.map valU8) hx (by simp [hl])
    (fun j u hu => by
      rw [List.getElem?_map] at hu
      obtain ⟨b, hb, rfl⟩ := Option.map_eq_some_iff.1 hu
      exact hnews j b hb) (valU8_one _) hcap ?_
  intro w' hown' hg
  have e : l.length + m = (l ++ news).length := by rw [List.length_append, hl]
  rw [e, ← List.map_append] at hown'
  rw [e]
  exact h w' hown' ((Below.refl _ _).grown hg hbase (fun k hk => by
    have := (World.ownsRow.lt hown k (by simpa [Value.ownBlock] using hk)).1
    exact this))
theorem newsU8 (w : World) (t : TypeId) (l : List UInt8) : ∀ j u, l[j]? = some u → (w.alloc (.cells (cellsU8 l) t)).cell? ((⟨w.heap.size, 0, none⟩ : Addr).add j) = some (valU8 u) := by
  intro j u hu
  rw [Addr.add_lit, Nat.zero_add, (Blk.new w t (cellsU8 l)).cell, cellsU8_get, hu]
  rfl
/-- append of one gathered slice onto another. -/
theorem wpList_append_both {w : World} {ops : Array Oper} {rest : List Oper} {o : Oper} {a : Act} {Q : Exit → Act → World → Prop} (hgd : o.guard = none) (s x : Operand)
    (ho : o.op = .call { callee := .builtin .append, args := #[s, x], argTypes := #[32, 32] })
    (B : Nat) (v : Value) (l : List UInt8) (hs : a.eval s = v) (hown : OwnB w B v l)
    (B' : Nat) (u : Value) (l' : List UInt8) (hx : a.eval x = u) (hsrc : OwnB w B' u l')
    (hbytes : l.length + l'.length ≤ 140737488355328) (hbase : B ≤ w.heap.size)
    (h : ∀ v' w', OwnB w' B v' (l ++ l') → Below B w w' → wpList Try.prog ops Q rest (a.put o.dst v') w') : wpList Try.prog ops Q (o :: rest) a w := by
  rcases hsrc.2 with ⟨rfl, hn⟩ | ⟨g, cap, cur, rfl, hg, hh, r⟩
  · have hl : l' = [] := List.eq_nil_of_length_eq_zero hn
    subst hl
    obtain ⟨i, hi, hz, hs1, hb1⟩ := info_parts infoU8
    refine wpList_plain hgd fun K hK' => ?_
    have hrun := run_append_owned_none (P := Try.prog) w B 32 o.type 5 i 1 Try.underlying32 hi v l.length (l.map valU8) hown
    unfold Oper.wp execOp
    simp only [ho, resolve, invoke, builtin, Sem.run_bind, Sem.run_pure, Result.andThen_ok, List.map_toArray, List.map_cons, List.map_nil, hs, hx, hrun]
    exact hK' _ _ (h v w (by simpa using hown) (Below.refl _ _))
  · refine wpList_append_bytes hgd s x ho B v l hs hown ⟨g, 0, none⟩ l'.length cap l' hx rfl ?_ hbytes hbase h
    intro j b hj
    exact World.ownsRow.cells hsrc (g := g) rfl j (valU8 b) (by simp [hj])
/-- The same two laws as one step of a region that draws its order. -/
theorem step_append_bytes_fits {w : World} {ops : Array Oper} {o : Oper} {a : Act} {K : Act → World → Prop} {Q : Exit → Act → World → Prop} {E : Prop} (hgd : o.guard = none) (s x : Operand)
    (ho : o.op = .call { callee := .builtin .append, args := #[s, x], argTypes := #[32, 32] })
    (B g cap : Nat) (l : List UInt8) (hs : a.eval s = .slice (some ⟨g, 0, none⟩) l.length cap) (hown : OwnB w B (.slice (some ⟨g, 0, none⟩) l.length cap) l)
    (ad : Addr) (m c : Nat) (news : List UInt8) (hx : a.eval x = .slice (some ad) m c) (hl : news.length = m) (hnews : ∀ j u, news[j]? = some u → w.cell? (ad.add j) = some (valU8 u))
    (hcap : l.length + m ≤ cap) (hbase : B ≤ w.heap.size)
    (h : ∀ w', OwnB w' B (.slice (some ⟨g, 0, none⟩) (l ++ news).length cap) (l ++ news) → Below B w w' → K (a.put o.dst (.slice (some ⟨g, 0, none⟩) (l ++ news).length cap)) w') :
    if Region.wanted o (yielded ops a.tmps) = true then Oper.wp Try.prog o a w K Q else E := by
  have hw : Region.wanted o (yielded ops a.tmps) = true := by simp [Region.wanted, hgd]
  rw [if_pos hw]
  obtain ⟨i, hi, hz, hs1, hb1⟩ := info_parts infoU8
  obtain ⟨w', hrun, r1, r2⟩ := run_append_fits (P := Try.prog) w B 32 o.type 5 i 1 Try.underlying32 hi hs1 g l.length cap (l.map valU8) hown ad m c (news.map valU8) (by simp [hl])
    (fun j u hu => by
      rw [List.getElem?_map] at hu
      obtain ⟨b, hb, rfl⟩ := Option.map_eq_some_iff.1 hu
      exact hnews j b hb) (valU8_one _) hcap
  have e : l.length + m = (l ++ news).length := by rw [List.length_append, hl]
  rw [e, ← List.map_append] at r1
  rw [e] at hrun
  unfold Oper.wp execOp
  simp only [ho, resolve, invoke, builtin, Sem.run_bind, Sem.run_pure, Result.andThen_ok, List.map_toArray, List.map_cons, List.map_nil, hs, hx, hrun]
  exact h w' r1 ((Below.refl _ _).grown r2 hbase (fun k hk => (World.ownsRow.lt hown k (by simpa [Value.ownBlock] using hk)).1))
end Go.Proofs.Ytefebcibcmjbaab
