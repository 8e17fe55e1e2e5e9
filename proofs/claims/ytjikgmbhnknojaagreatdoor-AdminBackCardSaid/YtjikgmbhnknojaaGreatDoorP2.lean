/- Parts, joined. -/
import Derived.Test.YtjikgmbhnknojaaGreatDoorWays
import Derived.Laws.BitsAllLaws
import Derived.Laws.BitsLemmas
import Derived.OwnWalk
import Derived.Laws.OwnMore
import Derived.StillTailTactics
import Derived.Test.YtjikgmbhnknojaaGreatDoorP1
import Derived.Deep.RegionLaw
import Derived.BigQuiet
import Derived.Deep.QuietTactic
import Derived.Lib.AppendStr
import Derived.ScopeJumps
import Derived.WalkMore
/- Bits of ints of 64 bits that are not below 0. Plain; the bounds are each lemma's own. -/
namespace Go.Proofs.YtjikgmbhnknojaaGreatDoor
set_option linter.unusedVariables false
open Go.RowKit
theorem ofInt_i64 (a : Nat) (ha : a < 9223372036854775808) : (BitVec.ofInt 64 (a : Int)).toNat = a := by
  rw [BitVec.ofInt_natCast, BitVec.toNat_ofNat]; exact Nat.mod_eq_of_lt (by omega)
theorem i64_and_nat (a b : Nat) (ha : a < 9223372036854775808) (hb : b < 9223372036854775808) : bits .and .i64 (a : Int) (b : Int) = ((a &&& b : Nat) : Int) := by
  have hx : a &&& b < 2 ^ 63 := Nat.and_lt_two_pow _ (by omega)
  show IntKind.i64.wrap ((BitVec.ofInt 64 (a : Int) &&& BitVec.ofInt 64 (b : Int)).toNat : Int) = _
  rw [BitVec.toNat_and, ofInt_i64 a ha, ofInt_i64 b hb, IntKind.wrap_i64]
  omega
theorem i64_or_nat (a b : Nat) (ha : a < 9223372036854775808) (hb : b < 9223372036854775808) : bits .or .i64 (a : Int) (b : Int) = ((a ||| b : Nat) : Int) := by
  have hx : a ||| b < 2 ^ 63 := Nat.or_lt_two_pow (by omega) (by omega)
  show IntKind.i64.wrap ((BitVec.ofInt 64 (a : Int) ||| BitVec.ofInt 64 (b : Int)).toNat : Int) = _
  rw [BitVec.toNat_or, ofInt_i64 a ha, ofInt_i64 b hb, IntKind.wrap_i64]
  omega
theorem i64_xor_nat (a b : Nat) (ha : a < 9223372036854775808) (hb : b < 9223372036854775808) : bits .xor .i64 (a : Int) (b : Int) = ((a ^^^ b : Nat) : Int) := by
  have hx : a ^^^ b < 2 ^ 63 := Nat.xor_lt_two_pow (by omega) (by omega)
  show IntKind.i64.wrap ((BitVec.ofInt 64 (a : Int) ^^^ BitVec.ofInt 64 (b : Int)).toNat : Int) = _
  rw [BitVec.toNat_xor, ofInt_i64 a ha, ofInt_i64 b hb, IntKind.wrap_i64]
  omega
theorem or_byte (a b : Nat) (hb : b < 256) : (a * 256) ||| b = a * 256 + b := by
  have h := Nat.two_pow_add_eq_or_of_lt (i := 8) hb a
  rw [show 2 ^ 8 * a = a * 256 from by omega] at h
  exact h.symm
end Go.Proofs.YtjikgmbhnknojaaGreatDoor

/- Bytes that the call itself has gathered: a slice that owns a list of bytes; append, make, the text of it. Plain lemmas. -/
namespace Go.Proofs.YtjikgmbhnknojaaGreatDoor
set_option linter.unusedVariables false
open Go.RowKit
def valU8 (b : UInt8) : Value := .int .u8 (b.toNat : Int)
def OwnB (w : World) (B : Nat) (v : Value) (l : List UInt8) : Prop := w.ownsRow B 5 1 v l.length (l.map valU8)
theorem valU8_one (l : List UInt8) : ∀ u ∈ l.map valU8, u.oneCell' = true := by
  intro u hu
  obtain ⟨_, _, rfl⟩ := List.mem_map.1 hu
  rfl
section
variable {w w' : World} {B B' : Nat} {v : Value} {l : List UInt8}
theorem OwnB.nil (w : World) (B : Nat) : OwnB w B (.slice none 0 0) [] := World.ownsRow_nil _ _ _ _
theorem OwnB.drew (h : OwnB w B v l) : OwnB w.drew B v l := h
theorem OwnB.drewN (h : OwnB w B v l) (n : Nat) : OwnB (w.drewN n) B v l := h
theorem OwnB.alloc (h : OwnB w B v l) (o : Obj) : OwnB (w.alloc o) B v l := World.ownsRow.alloc h o
theorem OwnB.less (h : OwnB w B v l) (hB : B' ≤ B) : OwnB w B' v l := by
  obtain ⟨h1, h2⟩ := h
  refine ⟨h1, ?_⟩
  rcases h2 with h2 | ⟨g, cap, cur, hv, hg, r⟩
  · exact .inl h2
  · exact .inr ⟨g, cap, cur, hv, Nat.le_trans hB hg, r⟩
theorem OwnB.below {C : Nat} (h : OwnB w B v l) (hb : Below C w w') (hC : w.heap.size ≤ C) : OwnB w' B v l := by
  obtain ⟨h1, h2⟩ := h
  refine ⟨h1, ?_⟩
  rcases h2 with h2 | ⟨g, cap, cur, hv, hg, hh, r⟩
  · exact .inl h2
  · have hlt : g < w.heap.size := by
      rcases Nat.lt_or_ge g w.heap.size with h | h
      · exact h
      · rw [Array.getElem?_eq_none h] at hh; cases hh
    exact .inr ⟨g, cap, cur, hv, hg, by rw [hb.block g (by omega)]; exact hh, r⟩
theorem OwnB.made (w : World) (n : Nat) (hn : n ≤ maxLen) : OwnB (w.alloc (.cells (cellsU8 (List.replicate n 0)) 5)) w.heap.size (.slice (some ⟨w.heap.size, 0, none⟩) 0 n) [] :=
  ⟨by simp, .inr ⟨w.heap.size, n, cellsU8 (List.replicate n 0), rfl, Nat.le_refl _, heap_alloc_new w _, Nat.zero_le _, hn, by simp [cellsU8_size], by simp⟩⟩
theorem OwnB.lit (w : World) (l : List UInt8) (hn : l.length ≤ maxLen) : OwnB (w.alloc (.cells (cellsU8 l) 5)) w.heap.size (.slice (some ⟨w.heap.size, 0, none⟩) l.length l.length) l :=
  ⟨by simp, .inr ⟨w.heap.size, l.length, cellsU8 l, rfl, Nat.le_refl _, heap_alloc_new w _, Nat.le_refl _, hn, by simp [cellsU8_size], by
    simp only [cellsU8, Nat.mul_one]
    rw [List.take_of_length_le (by simp)]
    rfl⟩⟩
theorem OwnB.string (h : OwnB w B v l) : (convert 96 9 v).run Tryz.prog w = .ok (.string ⟨l.toArray⟩) w := by
  rcases h.2 with ⟨rfl, hn⟩ | ⟨g, cap, cur, rfl, hg, hh, r⟩
  · have hl : l = [] := List.eq_nil_of_length_eq_zero hn
    subst hl
    exact run_convert_bytes_nil (P := Tryz.prog) w 96 5 Tryz.underlying96 Tryz.underlying5 0 0 9 Tryz.underlying9
  · have hc := World.ownsRow.cells h (g := g) rfl
    have h1 := run_convert_bytes_arg (P := Tryz.prog) w 96 5 Tryz.underlying96 Tryz.underlying5 g 0 l.length cap (l.map fun b => (b.toNat : Int)) (by simp) (fun i hi => by
      have hx := hc i (valU8 l[i]) (by simp [hi])
      rw [Addr.add_lit] at hx
      rw [hx]
      simp [valU8, hi]) 9 Tryz.underlying9
    rw [h1]
    have he : ((fun n : Int => UInt8.ofNat n.toNat) ∘ fun b : UInt8 => (b.toNat : Int)) = id := by funext b; simp
    simp [strOfNums, he]
end
/-- append of bytes onto a row of the call's own. -/
theorem wpList_append_bytes {w : World} {ops : Array Oper} {rest : List Oper} {o : Oper} {a : Act} {Q : Exit → Act → World → Prop} (hgd : o.guard = none) (s x : Operand)
    (ho : o.op = .call { callee := .builtin .append, args := #[s, x], argTypes := #[96, 96] })
    (B : Nat) (v : Value) (l : List UInt8) (hs : a.eval s = v) (hown : OwnB w B v l)
    (ad : Addr) (m c : Nat) (news : List UInt8) (hx : a.eval x = .slice (some ad) m c) (hl : news.length = m) (hnews : ∀ j u, news[j]? = some u → w.cell? (ad.add j) = some (valU8 u))
    (hbytes : l.length + m ≤ 140737488355328) (hbase : B ≤ w.heap.size)
    (h : ∀ v' w', OwnB w' B v' (l ++ news) → Below B w w' → wpList Tryz.prog ops Q rest (a.put o.dst v') w') : wpList Tryz.prog ops Q (o :: rest) a w := by
  obtain ⟨i, hi, hz, hs1, hb1⟩ := info_parts infoU8
  refine wpList_append_own w hgd s x 96 ho B 5 i (.int .u8 0) 1 1 Tryz.underlying96 hi hz hs1 hb1 rfl (by omega) v l.length (l.map valU8) hs hown ad m c (news.map valU8) hx (by simp [hl])
    (fun j u hu => by
      rw [List.getElem?_map] at hu
      obtain ⟨b, hb, rfl⟩ := Option.map_eq_some_iff.1 hu
      exact hnews j b hb) (valU8_one _) (by unfold maxLen; omega) (by omega) hbase ?_
  intro v' w' hown' hg _
  refine h v' w' ?_ ((Below.refl _ _).grown hg hbase (fun k hk => (World.ownsRow.lt hown k hk).1))
  unfold OwnB
  rw [List.length_append, List.map_append, hl]
  exact hown'
/-- append of bytes within the capacity. -/
theorem wpList_append_bytes_fits {w : World} {ops : Array Oper} {rest : List Oper} {o : Oper} {a : Act} {Q : Exit → Act → World → Prop} (hgd : o.guard = none) (s x : Operand)
    (ho : o.op = .call { callee := .builtin .append, args := #[s, x], argTypes := #[96, 96] })
    (B g cap : Nat) (l : List UInt8) (hs : a.eval s = .slice (some ⟨g, 0, none⟩) l.length cap) (hown : OwnB w B (.slice (some ⟨g, 0, none⟩) l.length cap) l)
    (ad : Addr) (m c : Nat) (news : List UInt8) (hx : a.eval x = .slice (some ad) m c) (hl : news.length = m) (hnews : ∀ j u, news[j]? = some u → w.cell? (ad.add j) = some (valU8 u))
    (hcap : l.length + m ≤ cap) (hbase : B ≤ w.heap.size)
    (h : ∀ w', OwnB w' B (.slice (some ⟨g, 0, none⟩) (l ++ news).length cap) (l ++ news) → Below B w w' → wpList Tryz.prog ops Q rest (a.put o.dst (.slice (some ⟨g, 0, none⟩) (l ++ news).length cap)) w') : wpList Tryz.prog ops Q (o :: rest) a w := by
  obtain ⟨i, hi, hz, hs1, hb1⟩ := info_parts infoU8
  refine wpList_append_fits w hgd s x 96 ho B 5 i 1 Tryz.underlying96 hi hs1 g l.length cap (l.map valU8) hs hown ad m c (news.map valU8) hx (by simp [hl])
    (fun j u hu => by
      rw [List.getElem?_map] at hu
      obtain ⟨b, hb, rfl⟩ := Option.map_eq_some_iff.1 hu
      exact hnews j b hb) (valU8_one _) hcap ?_
  intro w' hown' hg
  have e : l.length + m = (l ++ news).length := by rw [List.length_append, hl]
  rw [e, ← List.map_append] at hown'
  rw [e]
  exact h w' hown' ((Below.refl _ _).grown hg hbase (fun k hk => by
    have := (World.ownsRow.lt hown k (by simpa [Value.ownBlock] using hk)).1
    exact this))
theorem newsU8 (w : World) (t : TypeId) (l : List UInt8) : ∀ j u, l[j]? = some u → (w.alloc (.cells (cellsU8 l) t)).cell? ((⟨w.heap.size, 0, none⟩ : Addr).add j) = some (valU8 u) := by
  intro j u hu
  rw [Addr.add_lit, Nat.zero_add, (Blk.new w t (cellsU8 l)).cell, cellsU8_get, hu]
  rfl
/-- append of one gathered slice onto another. -/
theorem wpList_append_both {w : World} {ops : Array Oper} {rest : List Oper} {o : Oper} {a : Act} {Q : Exit → Act → World → Prop} (hgd : o.guard = none) (s x : Operand)
    (ho : o.op = .call { callee := .builtin .append, args := #[s, x], argTypes := #[96, 96] })
    (B : Nat) (v : Value) (l : List UInt8) (hs : a.eval s = v) (hown : OwnB w B v l)
    (B' : Nat) (u : Value) (l' : List UInt8) (hx : a.eval x = u) (hsrc : OwnB w B' u l')
    (hbytes : l.length + l'.length ≤ 140737488355328) (hbase : B ≤ w.heap.size)
    (h : ∀ v' w', OwnB w' B v' (l ++ l') → Below B w w' → wpList Tryz.prog ops Q rest (a.put o.dst v') w') : wpList Tryz.prog ops Q (o :: rest) a w := by
  rcases hsrc.2 with ⟨rfl, hn⟩ | ⟨g, cap, cur, rfl, hg, hh, r⟩
  · have hl : l' = [] := List.eq_nil_of_length_eq_zero hn
    subst hl
    obtain ⟨i, hi, hz, hs1, hb1⟩ := info_parts infoU8
    refine wpList_plain hgd fun K hK' => ?_
    have hrun := run_append_owned_none (P := Tryz.prog) w B 96 o.type 5 i 1 Tryz.underlying96 hi v l.length (l.map valU8) hown
    unfold Oper.wp execOp
    simp only [ho, resolve, invoke, builtin, Sem.run_bind, Sem.run_pure, Result.andThen_ok, List.map_toArray, List.map_cons, List.map_nil, hs, hx, hrun]
    exact hK' _ _ (h v w (by simpa using hown) (Below.refl _ _))
  · refine wpList_append_bytes hgd s x ho B v l hs hown ⟨g, 0, none⟩ l'.length cap l' hx rfl ?_ hbytes hbase h
    intro j b hj
    exact World.ownsRow.cells hsrc (g := g) rfl j (valU8 b) (by simp [hj])
/-- The same two laws as one step of a region that draws its order. -/
theorem step_append_bytes_fits {w : World} {ops : Array Oper} {o : Oper} {a : Act} {K : Act → World → Prop} {Q : Exit → Act → World → Prop} {E : Prop} (hgd : o.guard = none) (s x : Operand)
    (ho : o.op = .call { callee := .builtin .append, args := #[s, x], argTypes := #[96, 96] })
    (B g cap : Nat) (l : List UInt8) (hs : a.eval s = .slice (some ⟨g, 0, none⟩) l.length cap) (hown : OwnB w B (.slice (some ⟨g, 0, none⟩) l.length cap) l)
    (ad : Addr) (m c : Nat) (news : List UInt8) (hx : a.eval x = .slice (some ad) m c) (hl : news.length = m) (hnews : ∀ j u, news[j]? = some u → w.cell? (ad.add j) = some (valU8 u))
    (hcap : l.length + m ≤ cap) (hbase : B ≤ w.heap.size)
    (h : ∀ w', OwnB w' B (.slice (some ⟨g, 0, none⟩) (l ++ news).length cap) (l ++ news) → Below B w w' → K (a.put o.dst (.slice (some ⟨g, 0, none⟩) (l ++ news).length cap)) w') :
    if Region.wanted o (yielded ops a.tmps) = true then Oper.wp Tryz.prog o a w K Q else E := by
  have hw : Region.wanted o (yielded ops a.tmps) = true := by simp [Region.wanted, hgd]
  rw [if_pos hw]
  obtain ⟨i, hi, hz, hs1, hb1⟩ := info_parts infoU8
  obtain ⟨w', hrun, r1, r2⟩ := run_append_fits (P := Tryz.prog) w B 96 o.type 5 i 1 Tryz.underlying96 hi hs1 g l.length cap (l.map valU8) hown ad m c (news.map valU8) (by simp [hl])
    (fun j u hu => by
      rw [List.getElem?_map] at hu
      obtain ⟨b, hb, rfl⟩ := Option.map_eq_some_iff.1 hu
      exact hnews j b hb) (valU8_one _) hcap
  have e : l.length + m = (l ++ news).length := by rw [List.length_append, hl]
  rw [e, ← List.map_append] at r1
  rw [e] at hrun
  unfold Oper.wp execOp
  simp only [ho, resolve, invoke, builtin, Sem.run_bind, Sem.run_pure, Result.andThen_ok, List.map_toArray, List.map_cons, List.map_nil, hs, hx, hrun]
  exact h w' r1 ((Below.refl _ _).grown r2 hbase (fun k hk => (World.ownsRow.lt hown k (by simpa [Value.ownBlock] using hk)).1))
end Go.Proofs.YtjikgmbhnknojaaGreatDoor

/- What bits.Nibble, bits.Hex, bits.Unhex return. -/
namespace Go.Proofs.YtjikgmbhnknojaaGreatDoor
set_option linter.unusedVariables false
open Go.RowKit Go.BigFrame
theorem take_snoc (s : ByteArray) (k : Nat) (h : k < s.size) : s.data.toList.take (k + 1) = s.data.toList.take k ++ [s[k]] := by
  rw [List.take_succ_eq_append_getElem (by simpa using h)]; rfl
theorem small {p : Nat → Prop} (h : p 0 ∧ p 1 ∧ p 2 ∧ p 3 ∧ p 4 ∧ p 5 ∧ p 6 ∧ p 7 ∧ p 8 ∧ p 9 ∧ p 10 ∧ p 11 ∧ p 12 ∧ p 13 ∧ p 14 ∧ p 15) (n : Nat) (hn : n < 16) : p n := by
  obtain ⟨h0, h1, h2, h3, h4, h5, h6, h7, h8, h9, h10, h11, h12, h13, h14, h15⟩ := h
  rcases (by omega : n = 0 ∨ n = 1 ∨ n = 2 ∨ n = 3 ∨ n = 4 ∨ n = 5 ∨ n = 6 ∨ n = 7 ∨ n = 8 ∨ n = 9 ∨ n = 10 ∨ n = 11 ∨ n = 12 ∨ n = 13 ∨ n = 14 ∨ n = 15) with rfl | rfl | rfl | rfl | rfl | rfl | rfl | rfl | rfl | rfl | rfl | rfl | rfl | rfl | rfl | rfl <;> assumption
theorem index_hex (W : World) (n : Nat) (hn : n < 16) : (Instr.index 9 (.string ⟨#[48, 49, 50, 51, 52, 53, 54, 55, 56, 57, 97, 98, 99, 100, 101, 102]⟩) (.int .u8 (n : Int))).run Tryz.prog W = .ok (.int .u8 ((P.hd n).toNat : Int)) W := by
  refine small (p := fun n => (Instr.index 9 (.string ⟨#[48, 49, 50, 51, 52, 53, 54, 55, 56, 57, 97, 98, 99, 100, 101, 102]⟩) (.int .u8 (n : Int))).run Tryz.prog W = .ok (.int .u8 ((P.hd n).toNat : Int)) W) ?_ n hn
  exact ⟨by kernel_rfl, by kernel_rfl, by kernel_rfl, by kernel_rfl, by kernel_rfl, by kernel_rfl, by kernel_rfl, by kernel_rfl, by kernel_rfl, by kernel_rfl, by kernel_rfl, by kernel_rfl, by kernel_rfl, by kernel_rfl, by kernel_rfl, by kernel_rfl⟩
theorem and15 (b : Nat) (hb : b < 256) : bits BinOp.and IntKind.u8 (b : Int) 15 = ((b % 16 : Nat) : Int) := by
  rw [show (15 : Int) = ((15 : Nat) : Int) from rfl, u8_and_nat _ _ hb (by omega)]
  congr 1
  exact Nat.and_two_pow_sub_one_eq_mod b 4
set_option maxRecDepth 100000 in
set_option maxHeartbeats 400000 in
theorem hex_any (s : ByteArray) (w : World) (hs : s.size ≤ 140737488351232) :
    Calls Tryz.prog 52 #[.string s] w fun e w' => e = .returned (.string ⟨(P.hex s.data.toList).toArray⟩) ∧ Below w.heap.size w w' := by
  have hmk : ∀ W : World, (Instr.makeSlice 96 (.int .i64 0) (.int .i64 (2 * (s.size : Int)))).run Tryz.prog W = .ok (.slice (some ⟨W.heap.size, 0, none⟩) 0 (2 * s.size)) (W.alloc (.cells (cellsU8 (List.replicate (2 * s.size) 0)) 5)) := fun W => by
    have := make_bytes .i64 .i64 0 (2 * s.size) (by omega) (by omega) W
    rw [show (((2 * s.size : Nat)) : Int) = 2 * (s.size : Int) from by omega] at this
    exact this
  have Hown := Lib.hid (OwnB.made w (2 * s.size) (by unfold maxLen; omega))
  go_enter Tryz.func52, Tryz.ntmps52
  go_wp2_with fail
  go_loopw [3, 11] (fun v x wr => ∃ k : Nat, k ≤ s.size ∧ x = .int .i64 k ∧ v = .slice (some ⟨w.heap.size, 0, none⟩) (P.hex (s.data.toList.take k)).length (2 * s.size) ∧ OwnB wr w.heap.size v (P.hex (s.data.toList.take k)) ∧ Below w.heap.size w wr) (fun _ x _ => s.size - (intOf x).toNat)
  case atStart => exact ⟨0, by omega, rfl, rfl, Hown.out, (Below.refl _ _).alloc (Nat.le_refl _) _⟩
  case round =>
    obtain ⟨k, hk, rfl, rfl, hown, hbel⟩ := hrel
    by_cases hlt : k < s.size
    · have hb : s[k].toNat < 256 := s[k].toNat_lt
      have ha := and15 s[k].toNat hb
      have hi1 : ∀ W : World, _ := fun W => index_hex W (s[k].toNat / 16) (by omega)
      rw [show ((s[k].toNat / 16 : Nat) : Int) = (s[k].toNat : Int) / 16 from by omega] at hi1
      have hi2 : ∀ W : World, _ := fun W => index_hex W (s[k].toNat % 16) (by omega)
      rw [show ((s[k].toNat % 16 : Nat) : Int) = (s[k].toNat : Int) % 16 from by omega] at hi2
      rw [show ((s[k].toNat % 16 : Nat) : Int) = (s[k].toNat : Int) % 16 from by omega] at ha
      have hsn := take_snoc s k hlt
      have HS := Lib.hid (show P.hex (s.data.toList.take (k + 1)) = P.hex (s.data.toList.take k) ++ P.hexB s[k] from by rw [hsn, P.hex_snoc])
      clear hsn
      have hl := P.hex_length (s.data.toList.take k)
      rw [List.length_take, Nat.min_eq_left (by simpa using hk)] at hl
      have HL := Lib.hid hl
      clear hl
      generalize P.hex (s.data.toList.take k) = l at *
      go_wp2_with fail
      go_region_law (refine step_append_bytes_fits rfl (.tmp 14) (.tmp 25) rfl w.heap.size w.heap.size (2 * s.size) l (by simp [Act.eval]) (hown.drew.alloc _) ⟨wr.heap.size, 0, none⟩ 2 2 (P.hexB s[k]) (by simp [Act.eval]) rfl (newsU8 wr 5 (P.hexB s[k])) (by have := HL.out; omega) (by have := hbel.size; simp; omega) ?_; intro w2 hown2 hbel2)
      all_goals
        have Hb2 := Lib.hid (show Below w.heap.size w w2 from (hbel.drew.alloc (by have := hbel.size; simpa using this) _).trans hbel2)
        clear hbel2
        go_wp2
        go_roundw
        case rel => exact ⟨k + 1, by omega, by go_num, by rw [HS.out]; simp, by rw [HS.out]; simpa using hown2, Hb2.out⟩
        case measure => simp [intOf]; omega
    · have hkn : k = s.size := by omega
      subst hkn
      have HT := Lib.hid (show P.hex (s.data.toList.take s.size) = P.hex s.data.toList from by rw [List.take_of_length_le (by simp)])
      generalize P.hex (s.data.toList.take s.size) = l at *
      have hst := hown.string
      clear hown
      go_wp2
      go_ret
      rw [← HT.out]
      exact ⟨rfl, hbel⟩
end Go.Proofs.YtjikgmbhnknojaaGreatDoor

/- What bits.Get, bits.Number and the reference's return: the plain functions' values; the world as it was. -/
namespace Go.Proofs.YtjikgmbhnknojaaGreatDoor
set_option linter.unusedVariables false
open Go.RowKit

theorem shl8 (m b : Nat) (hm : m < 36028797018963968) (hb : b < 256) : bits BinOp.or IntKind.i64 ((m : Int) * 256) (b : Int) = ((m * 256 + b : Nat) : Int) := by
  rw [show ((m : Int) * 256) = ((m * 256 : Nat) : Int) from by omega, i64_or_nat _ _ (by omega) (by omega), or_byte _ _ hb]
theorem pow_le7 {k : Nat} (h : k ≤ 6) : 256 ^ k ≤ 281474976710656 := by
  have := Nat.pow_le_pow_right (n := 256) (by omega) h
  simpa using this
end Go.Proofs.YtjikgmbhnknojaaGreatDoor

/- What bits.Number and the reference's Number return. -/
namespace Go.Proofs.YtjikgmbhnknojaaGreatDoor
set_option linter.unusedVariables false
open Go.RowKit
theorem head_at (s : ByteArray) (h : 0 < s.size) : s.data.toList.head? = some s[0] := by
  have : 0 < s.data.toList.length := by simpa using h
  rw [List.head?_eq_getElem?, List.getElem?_eq_getElem this]
  rfl
theorem pow_le10 {k : Nat} (h : k ≤ 9) : 10 ^ k ≤ 1000000000 := by
  have := Nat.pow_le_pow_right (n := 10) (by omega) h
  simpa using this
theorem not_all (s : ByteArray) (k : Nat) (h : k < s.size) (hd : P.digit s[k] = false) : P.numOk s.data.toList = false := by
  have hm : s[k] ∈ s.data.toList := by
    have : s[k] = s.data.toList[k]'(by simpa using h) := rfl
    rw [this]; exact List.getElem_mem _
  have : s.data.toList.all P.digit = false := by
    rw [Bool.eq_false_iff]
    intro h2
    have := List.all_eq_true.1 h2 _ hm
    rw [hd] at this; cases this
  simp [P.numOk, this]
set_option maxRecDepth 100000 in
set_option maxHeartbeats 1000000 in
theorem number_any (s : ByteArray) (w : World) (hs : s.size ≤ maxLen) :
    Calls Tryz.prog 92 #[.string s] w fun e w' => e = .returned (.tuple #[.int .i64 (P.numV s.data.toList), .int .i64 (P.numE s.data.toList)]) ∧ w = w' := by
  unfold maxLen at hs
  have bad : ∀ hb : P.numOk s.data.toList = false, P.numV s.data.toList = 0 ∧ P.numE s.data.toList = 11 := fun hb => ⟨by simp [P.numV, hb], by simp [P.numE, hb]⟩
  by_cases h0 : s.size = 0
  · obtain ⟨HV, HE⟩ := bad (by simp [P.numOk, h0])
    rw [HV, HE]
    have he : s.toList = [] := by rw [ByteArray.toList_eq]; exact List.eq_nil_of_length_eq_zero (by simpa using h0)
    have he2 : s.toList.isEmpty = true := by rw [he]; rfl
    have he := Lib.hid he
    clear HV HE bad
    go_enter Tryz.func92, Tryz.ntmps92
    go_wp2
    go_ret2
    exact ⟨rfl, rfl⟩
  · have he2 : s.toList.isEmpty = false := by
      rw [ByteArray.toList_eq, Bool.eq_false_iff, ne_eq, List.isEmpty_iff]
      intro h; apply h0; have := congrArg List.length h; simpa using this
    by_cases h1 : 10 < s.size
    · obtain ⟨HV, HE⟩ := bad (by simp [P.numOk]; intro _ h _; omega)
      rw [HV, HE]
      clear HV HE bad
      go_enter Tryz.func92, Tryz.ntmps92
      go_wp2
      go_ret2
      exact ⟨rfl, rfl⟩
    · have hb0 : s[0].toNat < 256 := s[0].toNat_lt
      by_cases h2 : 1 < s.size ∧ s[0].toNat = 48
      · obtain ⟨h2, h3⟩ := h2
        have hz : s[0] = 48 := UInt8.toNat_inj.1 h3
        obtain ⟨HV, HE⟩ := bad (by simp [P.numOk, head_at s (by omega), hz]; intro _ _ h; omega)
        rw [HV, HE]
        have ht : ((s[0].toNat : Int) == 48) = true := by rw [beq_iff_eq]; omega
        clear HV HE bad hz h3
        go_enter Tryz.func92, Tryz.ntmps92
        go_wp2
        go_ret2
        exact ⟨rfl, rfl⟩
      · have fin : Calls Tryz.prog 92 #[.string s] w fun e w' => e = .returned (.tuple #[.int .i64 (P.numV s.data.toList), .int .i64 (P.numE s.data.toList)]) ∧ w = w' := by
          have Hok := Lib.hid (show P.numOk s.data.toList = (s.data.toList.all P.digit && decide (P.numN s.data.toList ≤ 2147483647)) from by
            unfold P.numOk
            rw [decide_eq_true (p := 1 ≤ s.data.toList.length ∧ s.data.toList.length ≤ 10 ∧ ¬ (1 < s.data.toList.length ∧ s.data.toList.head? = some 48)), Bool.true_and]
            refine ⟨by simp; omega, by simp; omega, ?_⟩
            rintro ⟨ha, hb⟩
            rw [head_at s (by omega)] at hb
            exact h2 ⟨by simpa using ha, by rw [Option.some.inj hb]; rfl⟩)
          have Bad := Lib.hid bad
          clear bad
          have main : ∀ _ : (s.size ≤ 1 ∨ (1 < s.size ∧ ((s[0].toNat : Int) == 48) = false)), Calls Tryz.prog 92 #[.string s] w fun e w' => e = .returned (.tuple #[.int .i64 (P.numV s.data.toList), .int .i64 (P.numE s.data.toList)]) ∧ w = w' := by
            intro hcase
            have H2 := Lib.hid h2
            rcases hcase with h5 | ⟨h5, h6⟩
            all_goals
              go_enter Tryz.func92, Tryz.ntmps92
              go_wp2
              go_loop [4, 25] (fun x i => ∃ k : Nat, k ≤ s.size ∧ i = .int .i64 k ∧ ∃ m : Nat, m = P.numN (s.data.toList.take k) ∧ x = .int .i64 m ∧ ∀ b ∈ s.data.toList.take k, P.digit b = true) (fun _ i => s.size - (intOf i).toNat)
              case atStart => exact ⟨0, by omega, rfl, 0, by simp [P.numN], rfl, by simp⟩
              case round =>
                obtain ⟨k, hk, rfl, m, hm, rfl, hall⟩ := hrel
                have hlt0 := P.numN_lt (s.data.toList.take k) hall
                rw [← hm, List.length_take, Nat.min_eq_left (by simpa using hk)] at hlt0
                have Hm := Lib.hid hm
                have Hall := Lib.hid hall
                clear hm hall
                by_cases hlt : k < s.size
                · have hp := pow_le10 (k := k) (by omega)
                  have hm2 : m < 1000000000 := by omega
                  have hb : s[k].toNat < 256 := s[k].toNat_lt
                  have hsn := take_snoc s k hlt
                  have Hn := Lib.hid (show P.numN (s.data.toList.take (k + 1)) = 10 * m + (s[k].toNat - 48) from by rw [hsn, P.numN_snoc, ← Hm.out])
                  have Hsn := Lib.hid hsn
                  clear hsn hp hlt0
                  by_cases hd : 48 ≤ s[k].toNat ∧ s[k].toNat ≤ 57
                  · have Hd := Lib.hid (show P.digit s[k] = true from decide_eq_true hd)
                    obtain ⟨hd1, hd2⟩ := hd
                    go_wp2
                    go_round
                    case rel => exact ⟨k + 1, by omega, by go_num, _, Hn.out.symm, by go_num, by
                      rw [Hsn.out]
                      intro b hb
                      rcases List.mem_append.1 hb with h | h
                      · exact Hall.out b h
                      · rw [List.mem_singleton.1 h]; exact Hd.out⟩
                    case measure => simp [intOf]; omega
                  · obtain ⟨hv, he9⟩ := Bad.out (not_all s k hlt (decide_eq_false hd))
                    have HV := Lib.hid hv
                    have HE := Lib.hid he9
                    clear hv he9
                    rcases (by omega : s[k].toNat < 48 ∨ (48 ≤ s[k].toNat ∧ 57 < s[k].toNat)) with hd1 | ⟨hd1, hd2⟩
                    · clear hd
                      go_wp2
                      go_ret2
                      rw [HV.out, HE.out]
                      exact ⟨rfl, rfl⟩
                    · clear hd
                      go_wp2
                      go_ret2
                      rw [HV.out, HE.out]
                      exact ⟨rfl, rfl⟩
                · clear hlt0
                  have ht : s.data.toList.take k = s.data.toList := List.take_of_length_le (by simp; omega)
                  have Hall2 := Hall.out
                  have Hm2 := Hm.out
                  rw [ht] at Hall2 Hm2
                  have ha : s.data.toList.all P.digit = true := List.all_eq_true.2 Hall2
                  by_cases hbig : m ≤ 2147483647
                  · have hok : P.numOk s.data.toList = true := by rw [Hok.out, ha, ← Hm2]; simpa using hbig
                    have HV := Lib.hid (show P.numV s.data.toList = m from by simp [P.numV, hok, ← Hm2])
                    have HE := Lib.hid (show P.numE s.data.toList = 0 from by simp [P.numE, hok])
                    clear ht ha hok Hall2 Hm2
                    go_wp2
                    go_ret2
                    rw [HV.out, HE.out]
                    exact ⟨rfl, rfl⟩
                  · have hok : P.numOk s.data.toList = false := by rw [Hok.out, ha, ← Hm2]; simpa using hbig
                    obtain ⟨hv, he9⟩ := Bad.out hok
                    have HV := Lib.hid hv
                    have HE := Lib.hid he9
                    clear hv he9
                    clear ht ha hok Hall2 Hm2
                    go_wp2
                    go_ret2
                    rw [HV.out, HE.out]
                    exact ⟨rfl, rfl⟩
          exact main (by
            rcases Nat.lt_or_ge 1 s.size with h | h
            · exact .inr ⟨h, beq_eq_false_iff_ne.2 (by intro e; exact h2 ⟨h, by omega⟩)⟩
            · exact .inl h)
        exact fin
end Go.Proofs.YtjikgmbhnknojaaGreatDoor

/- What bits.Digits returns: the digits of the number, a sign ahead of them where it is below 0; nothing that was there is written. For all ints of 64 bits. -/
namespace Go.Proofs.YtjikgmbhnknojaaGreatDoor
set_option linter.unusedVariables false
open Go.RowKit
theorem slice_arr20 (g f : Nat) (hf : f < 20) (W : World) : (Instr.sliceAt 106 (.pointer (some ⟨g, 0, none⟩)) (some (.int .i64 f)) none none).run Tryz.prog W = .ok (.slice (some ⟨g, f, none⟩) (20 - f) (20 - f)) W := by
  have hal : Tryz.prog.arrayLen 106 = 20 := by kernel_rfl
  have hel : Tryz.prog.elem 106 = 5 := by kernel_rfl
  have h := run_sliceAt_array_l (P := Tryz.prog) W 106 ⟨g, 0, none⟩ (by rw [hal, hel]; exact Tryz.underlying106) .i64 (f : Int) (by omega) (by rw [hal]; omega)
  rw [h, hel, hal]
  have hs : (sizeOf 5).run Tryz.prog W = .ok 1 W := by have := Tryz.sizeOf5; simp [go_sem]
  rw [hs]
  simp only [Result.andThen_ok, slicedAt, Int.toNat_natCast, Nat.mul_one]
  rw [if_neg (by omega)]
  simp [Addr.add]
  exact fun h => h.symm
theorem put48 (m : Nat) : ((48 : Int) + (m : Int) % 10) = (((UInt8.ofNat (48 + m % 10)).toNat : Nat) : Int) := by
  have h : 48 + m % 10 < 256 := by omega
  simp [Nat.mod_eq_of_lt h]
theorem set_digit (f : Nat) (acc : List UInt8) (b : UInt8) (hf : 1 ≤ f) : (List.replicate f (0 : UInt8) ++ acc).set (f - 1) b = List.replicate (f - 1) 0 ++ b :: acc := by
  obtain ⟨k, rfl⟩ : ∃ k, f = k + 1 := ⟨f - 1, by omega⟩
  rw [List.replicate_succ', List.append_assoc]
  simp only [Nat.add_sub_cancel]
  rw [List.set_append_right _ _ (by simp)]
  simp
set_option maxRecDepth 100000 in
set_option maxHeartbeats 400000 in
theorem digits_any (v : Int) (w : World) (ha : -9223372036854775808 ≤ v) (ha' : v ≤ 9223372036854775807) :
    Calls Tryz.prog 16 #[.int .i64 v] w fun e w' => e = .returned (.string ⟨(P.digits v).toArray⟩) ∧ Below w.heap.size w w' := by
  have Hblk := Lib.hid (Blk.new w 106 (cellsU8 (List.replicate 20 0)))
  by_cases hneg : v < 0
  · obtain ⟨n, hn⟩ : ∃ n : Nat, v = -(n : Int) := ⟨v.natAbs, by omega⟩
    subst hn
    have hd0 : decide (0 < n) = true := by simp; omega
    have hres : P.digits (-(n : Int)) = 45 :: P.digitsN 20 n := by simp [P.digits, (by omega : 0 < n)]
    have hN := P.digitsN_length 20 n 19 (by omega) (by omega)
    rw [hres]
    clear hres
    go_enter Tryz.func16, Tryz.ntmps16
    go_wp2
    rw [show IntKind.u64.wrap (-IntKind.u64.wrap (-(n : Int))) = (n : Int) from by simp only [IntKind.wrap_u64]; omega]
    go_loopw [4, 5] (fun x y wr => ∃ f m : Nat, ∃ acc : List UInt8, 1 ≤ f ∧ f ≤ 20 ∧ m < 10 ^ f ∧ acc.length = 20 - f ∧ y = .int .i64 f ∧ x = .int .u64 m ∧ m ≤ 9223372036854775808 ∧ P.digitsN f m ++ acc = P.digitsN 20 n ∧ Blk wr w.heap.size 106 (cellsU8 (List.replicate f 0 ++ acc)) ∧ Below w.heap.size w wr) (fun _ y _ => (intOf y).toNat)
    case atStart => exact ⟨20, n, [], by omega, by omega, by omega, rfl, rfl, rfl, by omega, by simp, by simpa [cellsU8] using Hblk.out, (Below.refl _ _).alloc (Nat.le_refl _) _⟩
    case round =>
      obtain ⟨f, m, acc, hf1, hf2, hm, hacc, rfl, rfl, hm2, hdig, hblk, hbel⟩ := hrel
      obtain ⟨f', rfl⟩ : ∃ k, f = k + 1 := ⟨f - 1, by omega⟩
      have hcell := hblk.cell f'
      have hfr := hblk.frozen f'
      obtain ⟨u, hu⟩ : ∃ u, (cellsU8 (List.replicate (f' + 1) 0 ++ acc))[f']? = some u := ⟨_, Array.getElem?_eq_getElem (by simp [cellsU8_size]; omega)⟩
      rw [hu] at hcell
      clear hu
      have hs := hblk.set_ f' (.int .u8 (((UInt8.ofNat (48 + m % 10)).toNat : Nat) : Int))
      have he := set_digit (f' + 1) acc (UInt8.ofNat (48 + m % 10)) hf1
      rw [Nat.add_sub_cancel] at he
      rw [cellsU8_set, he] at hs
      have hv := put48 m
      rw [← hv] at hs
      have Hs := Lib.hid hs
      clear hs he hv
      have hbel2 := Lib.hid (hbel.setCell (p := ⟨w.heap.size, f', none⟩) (Nat.le_refl _) (.int .u8 (48 + (m : Int) % 10)))
      by_cases hm0 : m / 10 = 0
      · have hfin : P.digitsN 20 n = UInt8.ofNat (48 + m % 10) :: acc := by rw [← hdig]; simp [P.digitsN, hm0]
        have ht : ((m : Int) / 10 == 0) = true := by simp; omega
        have Hfin := Lib.hid hfin
        have hf3 : 1 ≤ f' := by rw [hfin] at hN; simp at hN; omega
        have Hacc := Lib.hid hacc
        have Hdig := Lib.hid hdig
        have Hm0 := Lib.hid hm0
        clear hdig hfin hm0 hacc hm
        have hcell2 := hblk.cell (f' - 1)
        have hfr2 := hblk.frozen (f' - 1)
        obtain ⟨u2, hu2⟩ : ∃ u, (cellsU8 (List.replicate (f' + 1) 0 ++ acc))[f' - 1]? = some u := ⟨_, Array.getElem?_eq_getElem (by have := Hacc.out; simp [cellsU8_size]; omega)⟩
        rw [hu2] at hcell2
        clear hu2 hblk
        have hblk := Hs.out
        have Hs2 := hblk.set_ (f' - 1) (.int .u8 (((45 : UInt8).toNat : Nat) : Int))
        rw [cellsU8_set, set_digit f' _ _ hf3] at Hs2
        have hsl := slice_arr20 w.heap.size (f' - 1) (by omega)
        rw [show ((f' - 1 : Nat) : Int) = (f' : Int) - 1 from by omega] at hsl
        have hst := bytes_string_off (off := f' - 1) (n := 20 - (f' - 1)) (c := 20 - (f' - 1)) Hs2 (by have := Hacc.out; simp; omega)
        rw [show ((List.replicate (f' - 1) (0 : UInt8) ++ 45 :: UInt8.ofNat (48 + m % 10) :: acc).drop (f' - 1)).take (20 - (f' - 1)) = 45 :: P.digitsN 20 n from by
          rw [Hfin.out, List.drop_left' (by simp), List.take_of_length_le (by have := Hacc.out; simp; omega)]] at hst
        have hst : (convert 96 9 (Value.slice (some ⟨w.heap.size, f' - 1, none⟩) (20 - (f' - 1)) (20 - (f' - 1)))).run Tryz.prog ((wr.setCell ⟨w.heap.size, f', none⟩ (.int .u8 (48 + (m : Int) % 10))).setCell ⟨w.heap.size, f' - 1, none⟩ (.int .u8 45)) = .ok (.string ⟨(45 :: P.digitsN 20 n).toArray⟩) ((wr.setCell ⟨w.heap.size, f', none⟩ (.int .u8 (48 + (m : Int) % 10))).setCell ⟨w.heap.size, f' - 1, none⟩ (.int .u8 45)) := hst
        clear hblk
        go_wp2

        go_ret
        exact ⟨rfl, hbel2.out.setCell (Nat.le_refl _) _⟩
      · have hstep : P.digitsN f' (m / 10) ++ UInt8.ofNat (48 + m % 10) :: acc = P.digitsN 20 n := by rw [← hdig]; simp [P.digitsN, hm0]
        have ht : ((m : Int) / 10 == 0) = false := by simp; omega
        have hlt : m / 10 < 10 ^ f' := by rw [Nat.div_lt_iff_lt_mul (by omega), ← Nat.pow_succ]; exact hm
        have hf3 : 1 ≤ f' := by
          rcases Nat.eq_zero_or_pos f' with h | h
          · subst h; omega
          · exact h
        have Hst := Lib.hid hstep
        have Hlt := Lib.hid hlt
        have Hacc := Lib.hid hacc
        clear hstep hdig hm hlt hm0 hacc hblk
        go_wp2
        go_roundw
        case rel => exact ⟨f', m / 10, _, hf3, by omega, Hlt.out, by have := Hacc.out; simp; omega, by go_num, by go_num, by omega, Hst.out, Hs.out, hbel2.out⟩
        case measure => simp [intOf]
  · obtain ⟨n, rfl⟩ := Int.eq_ofNat_of_zero_le (by omega : 0 ≤ v)
    have hres : P.digits (n : Int) = P.digitsN 20 n := by simp [P.digits]
    have hN := P.digitsN_length 20 n 19 (by omega) (by omega)
    rw [hres]
    clear hres
    go_enter Tryz.func16, Tryz.ntmps16
    go_wp2
    go_loopw [4, 5] (fun x y wr => ∃ f m : Nat, ∃ acc : List UInt8, 1 ≤ f ∧ f ≤ 20 ∧ m < 10 ^ f ∧ acc.length = 20 - f ∧ y = .int .i64 f ∧ x = .int .u64 m ∧ m ≤ 9223372036854775808 ∧ P.digitsN f m ++ acc = P.digitsN 20 n ∧ Blk wr w.heap.size 106 (cellsU8 (List.replicate f 0 ++ acc)) ∧ Below w.heap.size w wr) (fun _ y _ => (intOf y).toNat)
    case atStart => exact ⟨20, n, [], by omega, by omega, by omega, rfl, rfl, rfl, by omega, by simp, by simpa [cellsU8] using Hblk.out, (Below.refl _ _).alloc (Nat.le_refl _) _⟩
    case round =>
      obtain ⟨f, m, acc, hf1, hf2, hm, hacc, rfl, rfl, hm2, hdig, hblk, hbel⟩ := hrel
      obtain ⟨f', rfl⟩ : ∃ k, f = k + 1 := ⟨f - 1, by omega⟩
      have hcell := hblk.cell f'
      have hfr := hblk.frozen f'
      obtain ⟨u, hu⟩ : ∃ u, (cellsU8 (List.replicate (f' + 1) 0 ++ acc))[f']? = some u := ⟨_, Array.getElem?_eq_getElem (by simp [cellsU8_size]; omega)⟩
      rw [hu] at hcell
      clear hu
      have hs := hblk.set_ f' (.int .u8 (((UInt8.ofNat (48 + m % 10)).toNat : Nat) : Int))
      have he := set_digit (f' + 1) acc (UInt8.ofNat (48 + m % 10)) hf1
      rw [Nat.add_sub_cancel] at he
      rw [cellsU8_set, he] at hs
      have hv := put48 m
      rw [← hv] at hs
      have Hs := Lib.hid hs
      clear hs he hv
      have hbel2 := Lib.hid (hbel.setCell (p := ⟨w.heap.size, f', none⟩) (Nat.le_refl _) (.int .u8 (48 + (m : Int) % 10)))
      by_cases hm0 : m / 10 = 0
      · have hfin : P.digitsN 20 n = UInt8.ofNat (48 + m % 10) :: acc := by rw [← hdig]; simp [P.digitsN, hm0]
        have ht : ((m : Int) / 10 == 0) = true := by simp; omega
        have Hfin := Lib.hid hfin
        have hf3 : 1 ≤ f' := by rw [hfin] at hN; simp at hN; omega
        have Hacc := Lib.hid hacc
        have Hdig := Lib.hid hdig
        have Hm0 := Lib.hid hm0
        clear hdig hfin hm0 hacc hm
        have hsl := slice_arr20 w.heap.size f' (by omega)
        have hst := bytes_string_off (off := f') (n := 20 - f') (c := 20 - f') Hs.out (by have := Hacc.out; simp; omega)
        rw [show ((List.replicate f' (0 : UInt8) ++ UInt8.ofNat (48 + m % 10) :: acc).drop f').take (20 - f') = P.digitsN 20 n from by
          rw [Hfin.out, List.drop_left' (by simp), List.take_of_length_le (by have := Hacc.out; simp; omega)]] at hst
        go_wp2

        go_ret
        exact ⟨rfl, hbel2.out⟩
      · have hstep : P.digitsN f' (m / 10) ++ UInt8.ofNat (48 + m % 10) :: acc = P.digitsN 20 n := by rw [← hdig]; simp [P.digitsN, hm0]
        have ht : ((m : Int) / 10 == 0) = false := by simp; omega
        have hlt : m / 10 < 10 ^ f' := by rw [Nat.div_lt_iff_lt_mul (by omega), ← Nat.pow_succ]; exact hm
        have hf3 : 1 ≤ f' := by
          rcases Nat.eq_zero_or_pos f' with h | h
          · subst h; omega
          · exact h
        have Hst := Lib.hid hstep
        have Hlt := Lib.hid hlt
        have Hacc := Lib.hid hacc
        clear hstep hdig hm hlt hm0 hacc hblk
        go_wp2
        go_roundw
        case rel => exact ⟨f', m / 10, _, hf3, by omega, Hlt.out, by have := Hacc.out; simp; omega, by go_num, by go_num, by omega, Hst.out, Hs.out, hbel2.out⟩
        case measure => simp [intOf]
end Go.Proofs.YtjikgmbhnknojaaGreatDoor

/- What bits.Nibble, bits.Unhex, the reference's Digit and Unhex return (for the seats whose cut has no Hex). -/
namespace Go.Proofs.YtjikgmbhnknojaaGreatDoor
set_option linter.unusedVariables false
open Go.RowKit Go.BigFrame
set_option maxRecDepth 100000 in
set_option maxHeartbeats 400000 in
theorem nibble_any (c : UInt8) (w : World) :
    Calls Tryz.prog 213 #[.int .u8 (c.toNat : Int)] w fun e w' => e = .returned (.int .i64 (P.nib c)) ∧ w = w' := by
  have hb := c.toNat_lt
  have hn : P.nib c = if 48 ≤ c.toNat ∧ c.toNat ≤ 57 then (c.toNat : Int) - 48 else if 97 ≤ c.toNat ∧ c.toNat ≤ 102 then (c.toNat : Int) - 87 else if 65 ≤ c.toNat ∧ c.toNat ≤ 70 then (c.toNat : Int) - 55 else -1 := rfl
  generalize P.nib c = r at *
  generalize c.toNat = n at *
  rcases (by omega : n < 48 ∨ (48 ≤ n ∧ n ≤ 57) ∨ (57 < n ∧ n < 65) ∨ (65 ≤ n ∧ n ≤ 70) ∨ (70 < n ∧ n < 97) ∨ (97 ≤ n ∧ n ≤ 102) ∨ (102 < n)) with h | ⟨h, h'⟩ | ⟨h, h'⟩ | ⟨h, h'⟩ | ⟨h, h'⟩ | ⟨h, h'⟩ | h <;>
  (have hr : r = if 48 ≤ n ∧ n ≤ 57 then (n : Int) - 48 else if 97 ≤ n ∧ n ≤ 102 then (n : Int) - 87 else if 65 ≤ n ∧ n ≤ 70 then (n : Int) - 55 else -1 := hn
   have HR := Lib.hid hr
   clear hn hr
   go_enter Tryz.func213, Tryz.ntmps213
   go_wp2
   go_ret
   refine ⟨?_, rfl⟩
   have h2 := HR.out
   repeat (first | rw [if_pos (by omega)] at h2 | rw [if_neg (by omega)] at h2)
   rw [h2]
   first | rfl | (refine congrArg (fun x => Ending.returned (Value.int .i64 x)) ?_; omega))
theorem idx_atu (s : ByteArray) (k : Nat) (hk : k < s.size) {i : Int} (hi : i = (k : Int)) (W : World) : (Instr.index 9 (.string s) (.int .i64 i)).run Tryz.prog W = .ok (.int .u8 (s[k].toNat : Int)) W := by
  subst hi
  simp [go_sem, hk]
theorem unhex_any_cm (na nb : Nat) (ha : na < 16) (hb : nb < 16) : bits BinOp.or IntKind.i64 ((na : Int) * 16) (nb : Int) % 256 = (((UInt8.ofNat (16 * na + nb)).toNat : Nat) : Int) := by
  rw [show ((na : Int) * 16) = ((na * 16 : Nat) : Int) from by omega, i64_or_nat _ _ (by omega) (by omega)]
  have h := Nat.two_pow_add_eq_or_of_lt (i := 4) hb na
  rw [show 2 ^ 4 * na = na * 16 from by omega] at h
  rw [← h]
  simp; omega
set_option maxRecDepth 100000 in
set_option maxHeartbeats 1000000 in
theorem unhex_any (s : ByteArray) (w : World) (hs : s.size ≤ 281474976710656) :
    Calls Tryz.prog 144 #[.string s] w fun e w' => e = .returned (.tuple #[.string ⟨(P.unhexS s.data.toList).toArray⟩, .int .i64 (P.unhexE s.data.toList)]) ∧ Below w.heap.size w w' := by
  by_cases hodd : s.size % 2 = 1
  · have hu := P.unhex_odd s.data.toList (by simpa using hodd)
    have HS := Lib.hid (show P.unhexS s.data.toList = [] from by simp [P.unhexS, hu])
    have HE := Lib.hid (show P.unhexE s.data.toList = 10 from by simp [P.unhexE, hu])
    have ht : ((s.size : Int) % 2 != 0) = true := by rw [bne_iff_ne]; omega
    clear hu hodd
    go_enter Tryz.func144, Tryz.ntmps144
    go_wp2
    go_ret2
    rw [HS.out, HE.out]
    exact ⟨rfl, Below.refl _ _⟩
  · have ht : ((s.size : Int) % 2 != 0) = false := by rw [Bool.eq_false_iff, ne_eq, bne_iff_ne]; omega
    have hmk : ∀ W : World, (Instr.makeSlice 96 (.int .i64 0) (.int .i64 ((s.size : Int) / 2))).run Tryz.prog W = .ok (.slice (some ⟨W.heap.size, 0, none⟩) 0 (s.size / 2)) (W.alloc (.cells (cellsU8 (List.replicate (s.size / 2) 0)) 5)) := fun W => by
      have := make_bytes .i64 .i64 0 (s.size / 2) (by omega) (by omega) W
      rw [show (((s.size / 2 : Nat)) : Int) = (s.size : Int) / 2 from by omega] at this
      exact this
    have Hown := Lib.hid (OwnB.made w (s.size / 2) (by unfold maxLen; omega))
    go_enter Tryz.func144, Tryz.ntmps144
    go_wp2_with fail
    go_loopw [4, 5] (fun v x wr => ∃ k : Nat, ∃ acc : List UInt8, 2 * k ≤ s.size ∧ x = .int .i64 (2 * (k : Int)) ∧ acc.length = k ∧ v = .slice (some ⟨w.heap.size, 0, none⟩) acc.length (s.size / 2) ∧ P.unhex s.data.toList = (P.unhex (s.data.toList.drop (2 * k))).map (acc ++ ·) ∧ OwnB wr w.heap.size v acc ∧ Below w.heap.size w wr) (fun _ x _ => s.size - (intOf x).toNat)
    case atStart => exact ⟨0, [], by omega, by simp, rfl, rfl, by simp, Hown.out, (Below.refl _ _).alloc (Nat.le_refl _) _⟩
    case round =>
      obtain ⟨k, acc, hk, rfl, hacc, rfl, hun, hown, hbel⟩ := hrel
      by_cases hlt : 2 * k < s.size
      · have hlt2 : 2 * k + 1 < s.size := by omega
        have hd : s.data.toList.drop (2 * k) = s[2 * k] :: s[2 * k + 1] :: s.data.toList.drop (2 * k + 2) := by
          rw [List.drop_eq_getElem_cons (by simpa using hlt), List.drop_eq_getElem_cons (by simpa using hlt2)]; rfl
        rw [hd] at hun
        have hx16 := P.nib_lt s[2 * k]
        have hy16 := P.nib_lt s[2 * k + 1]
        have e1 : ∀ r : List UInt8, P.unhex (s[2 * k] :: s[2 * k + 1] :: r) = if P.nib s[2 * k] < 0 ∨ P.nib s[2 * k + 1] < 0 then none else (P.unhex r).map (UInt8.ofNat (16 * (P.nib s[2 * k]).toNat + (P.nib s[2 * k + 1]).toNat) :: ·) := fun r => rfl
        have hi1 : ∀ W : World, (Instr.index 9 (.string s) (.int .i64 (2 * (k : Int)))).run Tryz.prog W = .ok (.int .u8 (s[2 * k].toNat : Int)) W := fun W => idx_atu s (2 * k) hlt (by omega) W
        have hi2 : ∀ W : World, (Instr.index 9 (.string s) (.int .i64 (2 * (k : Int) + 1))).run Tryz.prog W = .ok (.int .u8 (s[2 * k + 1].toNat : Int)) W := fun W => idx_atu s (2 * k + 1) hlt2 (by omega) W
        rw [e1] at hun
        have HUN := Lib.hid hun
        have Hacc := Lib.hid hacc
        have hwr : IntKind.i64.wrap (2 * (k : Int) + 1) = 2 * (k : Int) + 1 := by rw [IntKind.wrap_i64]; omega
        clear hun e1 hd hacc
        go_wp2_with fail
        refine wp_region_ext (by kernel_rfl) (by kernel_rfl) ?_
        repeat (first | go_big_quiet_step ((go_at_call 213; exact Ext.calls_same _ (nibble_any _ _))) | quiet_step ((go_at_call 213; exact Ext.calls_same _ (nibble_any _ _))))
        refine wpQuiet_nil ?_
        intro w2 hb2
        have hbel2 := hbel.trans (hb2.mono hbel.size)
        have hown2 := hown.below hb2 (Nat.le_refl _)
        clear hbel hb2 hown hwr
        generalize P.nib s[2 * k] = x at *
        generalize P.nib s[2 * k + 1] = y at *
        by_cases hbad : x < 0 ∨ y < 0
        · have hun := HUN.out
          rw [if_pos hbad] at hun
          have HS := Lib.hid (show P.unhexS s.data.toList = [] from by simp [P.unhexS, hun])
          have HE := Lib.hid (show P.unhexE s.data.toList = 10 from by simp [P.unhexE, hun])
          clear hun
          rcases (by omega : x < 0 ∨ (0 ≤ x ∧ y < 0)) with h | ⟨h, h'⟩
          · clear hbad
            go_wp2
            go_ret2
            rw [HS.out, HE.out]
            exact ⟨rfl, hbel2⟩
          · clear hbad
            go_wp2
            go_ret2
            rw [HS.out, HE.out]
            exact ⟨rfl, hbel2⟩
        · have hun := HUN.out
          rw [if_neg hbad] at hun
          obtain ⟨na, rfl⟩ := Int.eq_ofNat_of_zero_le (by omega : 0 ≤ x)
          obtain ⟨nb, rfl⟩ := Int.eq_ofNat_of_zero_le (by omega : 0 ≤ y)
          have hcm := unhex_any_cm na nb (by omega) (by omega)
          have HUN2 := Lib.hid hun
          clear hbad hun
          have hle : acc.length + 1 ≤ s.size / 2 := by have := Hacc.out; omega
          go_wp2_with (at_builtin; refine wpList_append_bytes_fits rfl (.tmp 37) (.tmp 43) rfl w.heap.size w.heap.size (s.size / 2) acc rfl (hown2.alloc _) ⟨w2.heap.size, 0, none⟩ 1 1 [UInt8.ofNat (16 * na + nb)] rfl rfl (newsU8 w2 5 [UInt8.ofNat (16 * na + nb)]) (by simpa using hle) (by have := hbel2.size; simp; omega) ?_; intro w3 hown3 hbel3)
          have Hb3 := Lib.hid (show Below w.heap.size w w3 from (hbel2.alloc hbel2.size _).trans hbel3)
          clear hbel3 hcm
          go_wp2
          go_roundw
          case rel => exact ⟨k + 1, acc ++ [UInt8.ofNat (16 * na + nb)], by omega, by go_num, by have := Hacc.out; simp; omega, by simp, by
            have h := HUN2.out
            simp only [Int.toNat_natCast] at h
            rw [h, show 2 * (k + 1) = 2 * k + 2 from by omega, Option.map_map]
            congr 1
            funext z
            simp, by simpa using hown3, Hb3.out⟩
          case measure => simp [intOf]; omega
      · have hks : 2 * k = s.size := by omega
        have hun2 := hun
        rw [hks, List.drop_eq_nil_of_le (by simp)] at hun2
        have HS := Lib.hid (show P.unhexS s.data.toList = acc from by simp [P.unhexS, hun2, P.unhex])
        have HE := Lib.hid (show P.unhexE s.data.toList = 0 from by simp [P.unhexE, hun2, P.unhex])
        have hst := hown.string
        clear hun hun2 hown hacc hks
        go_wp2
        go_ret2
        rw [HS.out, HE.out]
        exact ⟨rfl, hbel⟩
theorem refUnhex_any_cm (na nb : Nat) (ha : na < 16) (hb : nb < 16) : (((UInt8.ofNat (16 * na + nb)).toNat : Nat) : Int) = 16 * (na : Int) + (nb : Int) := by
  simp; omega
end Go.Proofs.YtjikgmbhnknojaaGreatDoor

/- append of a string's bytes onto bytes that the call itself has gathered; a scope with several labels. Plain lemmas. -/
namespace Go.Proofs.YtjikgmbhnknojaaGreatDoor
set_option linter.unusedVariables false
open Go Go.RowKit
theorem strCells_valU8 (s : ByteArray) : Lib.strCells s = s.data.toList.map valU8 := rfl
theorem wpList_append_str {w : World} {ops : Array Oper} {rest : List Oper} {o : Oper} {a : Act} {Q : Exit → Act → World → Prop} (hgd : o.guard = none) (s x : Operand)
    (ho : o.op = .call { callee := .builtin .append, args := #[s, x], argTypes := #[96, 9] })
    (B : Nat) (v : Value) (l : List UInt8) (hs : a.eval s = v) (hown : OwnB w B v l)
    (t : ByteArray) (hx : a.eval x = .string t)
    (hbytes : l.length + t.size ≤ 140737488355328) (hbase : B ≤ w.heap.size)
    (h : ∀ v' w', OwnB w' B v' (l ++ t.data.toList) → Below B w w' → wpList Tryz.prog ops Q rest (a.put o.dst v') w') : wpList Tryz.prog ops Q (o :: rest) a w := by
  obtain ⟨i, hi, hz, hs1, hb1⟩ := info_parts infoU8
  refine Lib.wpList_append_own_string w hgd s x 96 9 ho B 5 i Tryz.underlying96 Tryz.underlying9 hi hz hs1 hb1 v l.length (l.map valU8) hs hown t hx (by unfold maxLen; omega) hbytes hbase ?_
  intro v' w' hown' hg _
  refine h v' w' ?_ ((Below.refl _ _).grown hg hbase (fun k hk => (World.ownsRow.lt hown k hk).1))
  unfold OwnB
  rw [List.length_append, List.map_append, ← strCells_valU8]
  exact (show t.data.toList.length = t.size by simp) ▸ hown'
/-- As Q; by a goto to label l: J l. -/
def jumpsTo (J : Nat → Act → World → Prop) (Q : Exit → Act → World → Prop) : Exit → Act → World → Prop
  | .goto l, a, w => J l a w
  | e, a, w => Q e a w
section
variable {J : Nat → Act → World → Prop} {Q : Exit → Act → World → Prop} {a : Act} {w : World}
theorem jumpsTo_normal : jumpsTo J Q .normal a w = Q .normal a w := rfl
theorem jumpsTo_ret : jumpsTo J Q .ret a w = Q .ret a w := rfl
theorem jumpsTo_goto (l : Nat) : jumpsTo J Q (.goto l) a w = J l a w := rfl
/-- A scope of which several labels are jumped to: what holds at each jump, and a measure that every pass from a label to the next one lowers. -/
theorem wp_scope_labels {P : Program} {c : Code} (rest : Nat → Code) (J : Nat → Act → World → Prop) (μ : Nat → Act → World → Nat) (hf : ∀ l a w, J l a w → findLabel c l = some (rest l))
    (first : c.wp P (jumpsTo J Q) a w) (pass : ∀ l a w, J l a w → (rest l).wp P (jumpsTo (fun l' a' w' => J l' a' w' ∧ μ l' a' w' < μ l a w) Q) a w) : (Code.scope c).wp P Q a w := by
  intro b k cs
  have again : ∀ n l a w, μ l a w = n → J l a w → ∃ e a' w', Q e a' w' ∧ Arrives P (lone (b.at a (.code (rest l) :: .inScope c :: k)) cs w) b k cs e a' w' := fun n => by
    induction n using Nat.strongRecOn with
    | _ n ih =>
      intro l a w hn hJ
      obtain ⟨e, a1, w1, hq, harr⟩ := pass l a w hJ b (.inScope c :: k) cs
      match e, hq, harr with
      | .goto l2, hq, harr =>
        obtain ⟨hJ2, hlt⟩ := hq
        obtain ⟨e2, a2, w2, hq2, harr2⟩ := ih _ (hn ▸ hlt) l2 a1 w1 rfl hJ2
        exact ⟨e2, a2, w2, hq2, .of_steps (harr _ (by simp [gotoIn, hf l2 a1 w1 hJ2])) harr2⟩
      | .normal, hq, harr => exact ⟨_, a1, w1, hq, Steps.trans harr (.one step_inScope)⟩
      | .exit id, hq, harr => exact ⟨.exit id, a1, w1, hq, fun k' hk => harr k' (by simpa [exitTo] using hk)⟩
      | .ret, hq, harr => exact ⟨_, a1, w1, hq, harr⟩
      | .panic ch, hq, harr => exact ⟨_, a1, w1, hq, harr⟩
      | .outgrown, hq, harr => exact ⟨_, a1, w1, hq, harr⟩
  obtain ⟨e, a1, w1, hq, harr⟩ := first b (.inScope c :: k) cs
  match e, hq, harr with
  | .goto l2, hq, harr =>
    obtain ⟨e2, a2, w2, hq2, harr2⟩ := again _ l2 a1 w1 rfl hq
    exact ⟨e2, a2, w2, hq2, .of_steps (.head step_scope (harr _ (by simp [gotoIn, hf l2 a1 w1 hq]))) harr2⟩
  | .normal, hq, harr => exact ⟨.normal, a1, w1, hq, .head step_scope (Steps.trans harr (.one step_inScope))⟩
  | .exit id, hq, harr => exact ⟨.exit id, a1, w1, hq, fun k' hk => .head step_scope (harr k' (by simpa [exitTo] using hk))⟩
  | .ret, hq, harr => exact ⟨_, a1, w1, hq, .of_steps (.one step_scope) harr⟩
  | .panic ch, hq, harr => exact ⟨_, a1, w1, hq, .of_steps (.one step_scope) harr⟩
  | .outgrown, hq, harr => exact ⟨_, a1, w1, hq, .of_steps (.one step_scope) harr⟩
/-- Two labels, 0 and 1; the first one is come to by going on, too. -/
theorem wp_scope_two {P : Program} {c r0 r1 : Code} (J : Nat → Act → World → Prop) (μ : Nat → Act → World → Nat) (h0 : findLabel c 0 = some (.seq .skip r0)) (h1 : findLabel c 1 = some (.seq .skip r1)) (hJ : ∀ l a w, J l a w → l = 0 ∨ l = 1)
    (pass0 : ∀ a w, J 0 a w → r0.wp P (jumpsTo (fun l' a' w' => J l' a' w' ∧ μ l' a' w' < μ 0 a w) Q) a w)
    (pass1 : ∀ a w, J 1 a w → r1.wp P (jumpsTo (fun l' a' w' => J l' a' w' ∧ μ l' a' w' < μ 1 a w) Q) a w)
    (first : (∀ a w, J 0 a w → r0.wp P (jumpsTo J Q) a w) → c.wp P (jumpsTo J Q) a w) : (Code.scope c).wp P Q a w := by
  refine wp_scope_labels (fun l => if l = 0 then .seq .skip r0 else .seq .skip r1) J μ (fun l a w h => ?_) (first fun a w h => wp_mono (pass0 a w h) fun e a w hq => ?_) fun l a w h => ?_
  · rcases hJ l a w h with rfl | rfl
    · exact h0
    · exact h1
  · cases e with
    | goto l => exact hq.1
    | _ => exact hq
  · rcases hJ l a w h with rfl | rfl
    · exact wp_seq (wp_skip (pass0 a w h))
    · exact wp_seq (wp_skip (pass1 a w h))
end
end Go.Proofs.YtjikgmbhnknojaaGreatDoor
