/- What markTexts and the copies return; lists that the book keeps. -/
import Derived.Test.YtemjipongehjlaaGreatL13
import Derived.Test.YtemjipongehjlaaGreatL12
namespace Go.Proofs.YtemjipongehjlaaGreat
set_option linter.unusedVariables false
open Go.RowKit Go.BigFrame
set_option maxHeartbeats 2000000 in
set_option maxRecDepth 100000 in
theorem markTexts_any (i f n : Nat) (w : World) (hi : i ≤ 1000000) (hf : f ≤ 100000000) (hn : n ≤ 100000000) :
    Calls Tryz.prog 154 #[.int .i64 i, .int .i64 f, .int .i64 n] w (GivesS w (P.marksS i f n)) := by
  go_enter Tryz.func154, Tryz.ntmps154
  go_wp2_with fail
  go_loopw [7, 8] (fun o x wr => ∃ j : Nat, j ≤ n ∧ x = .int .i64 ((f + j : Nat) : Int) ∧ OwnS wr w.heap.size o (P.marksS i f j) ∧ Below w.heap.size w wr) (fun _ x _ => f + n - (intOf x).toNat)
  case atStart => exact ⟨0, by omega, by simp, OwnS.nil _ _, Below.refl _ _⟩
  case round =>
    obtain ⟨j, hj, rfl, hown, hbel⟩ := hrel
    have OW := Lib.hid hown
    have BW := Lib.hid hbel
    have HS := Lib.hid (P.marksS_succ i f j)
    have HLn := Lib.hid (P.marksS_len i f j)
    clear hown hbel
    by_cases hlt : j < n
    · have t1 : decide (((f + j : Nat) : Int) < (f : Int) + (n : Int)) = true := by simp; omega
      have NA := Lib.hid (name_any i (f + j) wr (by omega) (by omega))
      go_wp2_with fail
      refine NA.out.mono ?_
      rintro x w2 ⟨rfl, hb2⟩
      have O2 := Lib.hid (OW.out.below hb2 (Nat.le_refl _))
      have B2 := Lib.hid (BW.out.trans (hb2.mono BW.out.size))
      clear hb2
      generalize P.marksS i f j = acc at *
      go_wp2_with (at_builtin; refine wpList_append_str1 rfl (.tmp 17) (.tmp 21) rfl w.heap.size u7 acc rfl (O2.out.alloc (.cells #[.string (P.nameOf i (f + j))] 9)) ⟨w2.heap.size, 0, none⟩ (P.nameOf i (f + j)) rfl (newsS w2 9 (P.nameOf i (f + j))) (by have := HLn.out; omega) (by have := B2.out.size; simp; omega) ?_; intro o4 w4 hown4 hb4 hg4; have O4 := Lib.hid hown4; have W4 := Lib.hid ((B2.out.alloc B2.out.size (.cells #[.string (P.nameOf i (f + j))] 9)).trans hb4); clear hown4 hb4 hg4)
      go_roundw
      case rel => exact ⟨j + 1, by omega, by go_num, by rw [HS.out]; exact O4.out, W4.out⟩
      case measure => simp [intOf]; omega
    · have t1 : decide (((f + j : Nat) : Int) < (f : Int) + (n : Int)) = false := by simp; omega
      have hjn : j = n := by omega
      subst hjn
      go_wp2
      go_ret
      exact ⟨_, rfl, OW.out, BW.out⟩
set_option maxHeartbeats 2000000 in
set_option maxRecDepth 100000 in
theorem copyLegs_any (A : Option Addr) (m cp : Nat) (ls : List P.Leg) (B : Nat) (w : World) (h : LegsAt w B A m ls) (hA : A = none → m = 0 ∧ cp = 0) (hm : m ≤ 1099511627776) :
    Calls Tryz.prog 48 #[.slice A m cp] w (GivesL w ls) := by
  have hl := h.len
  rcases A with _ | ad
  · obtain ⟨rfl, rfl⟩ := hA rfl
    have hls : ls = [] := List.eq_nil_of_length_eq_zero hl
    subst hls
    clear h hA hl
    go_enter Tryz.func48, Tryz.ntmps48
    go_wp2
    go_ret
    exact ⟨_, rfl, OwnL.nil _ _, Below.refl _ _⟩
  · have hc : ∀ j z, (ls.flatMap P.Leg.cells)[j]? = some z → w.cell? (ad.add j) = some z := fun j z hz => by
      have hm1 : 0 < m := by
        rcases Nat.eq_zero_or_pos m with h0 | h0
        · rw [List.eq_nil_of_length_eq_zero (hl.trans h0)] at hz; cases hz
        · exact h0
      obtain ⟨ad', e, hb', hcc⟩ := h.2 hm1
      cases e
      exact hcc j z hz
    have HL := Lib.hid hl
    have HC := Lib.hid hc
    clear h hA hl hc
    go_enter Tryz.func48, Tryz.ntmps48
    go_wp2_with (at_builtin; refine wpList_append_legs rfl (.const (.slice none 0 0)) (.tmp 3) rfl w.heap.size (.slice none 0 0) [] rfl (OwnL.nil _ _) ad m cp ls rfl HL.out HC.out (by simp; omega) (by simp) ?_; intro v2 w2 hown hb'; have BO := Lib.hid hb'; have OW := Lib.hid hown; clear hown hb')
    go_ret
    exact ⟨_, rfl, OW.out, BO.out⟩
set_option maxHeartbeats 2000000 in
set_option maxRecDepth 100000 in
theorem copyTexts_any (A : Option Addr) (m cp : Nat) (ls : List ByteArray) (B : Nat) (w : World) (h : StrsAt w B A m ls) (hA : A = none → m = 0 ∧ cp = 0) (hm : m ≤ 1099511627776) :
    Calls Tryz.prog 49 #[.slice A m cp] w (GivesS w ls) := by
  have hl := h.len
  rcases A with _ | ad
  · obtain ⟨rfl, rfl⟩ := hA rfl
    have hls : ls = [] := List.eq_nil_of_length_eq_zero hl
    subst hls
    clear h hA hl
    go_enter Tryz.func49, Tryz.ntmps49
    go_wp2
    go_ret
    exact ⟨_, rfl, OwnS.nil _ _, Below.refl _ _⟩
  · have hc : ∀ j z, (ls.map Value.string)[j]? = some z → w.cell? (ad.add j) = some z := fun j z hz => by
      have hm1 : 0 < m := by
        rcases Nat.eq_zero_or_pos m with h0 | h0
        · rw [List.eq_nil_of_length_eq_zero (hl.trans h0)] at hz; simp at hz
        · exact h0
      obtain ⟨ad', e, hb', hcc⟩ := h.2 hm1
      cases e
      exact hcc j z hz
    have HL := Lib.hid hl
    have HC := Lib.hid hc
    clear h hA hl hc
    go_enter Tryz.func49, Tryz.ntmps49
    go_wp2_with (at_builtin; refine wpList_append_strs rfl (.const (.slice none 0 0)) (.tmp 3) rfl w.heap.size (.slice none 0 0) [] rfl (OwnS.nil _ _) ad m cp ls rfl HL.out HC.out (by simp; omega) (by simp) ?_; intro v2 w2 hown hb'; have BO := Lib.hid hb'; have OW := Lib.hid hown; clear hown hb')
    go_ret
    exact ⟨_, rfl, OW.out, BO.out⟩
/-- Only the blocks that are named are changed. -/
structure Ch (S : List (Option Nat)) (w w' : World) : Prop where
  os : w'.os = w.os
  tape : w'.tape = w.tape
  output : w'.output = w.output
  size : w.heap.size ≤ w'.heap.size
  keep : ∀ k, k < w.heap.size → some k ∉ S → w'.heap[k]? = w.heap[k]?
section
variable {w w' w'' : World} {S S' : List (Option Nat)}
theorem Ch.of_stays (h : Stays w w') (S : List (Option Nat)) : Ch S w w' := ⟨h.os, h.tape, h.output, h.size, fun k hk _ => h.block k hk⟩
theorem Ch.of_grown {r : Option Nat} (h : w.grownBy w' r) (hr : r ∈ S) : Ch S w w' := ⟨h.os, h.tape, h.output, h.size, fun k hk hn => h.block k hk (fun e => hn (e ▸ hr))⟩
theorem Ch.trans (h : Ch S w w') (k : Ch S w' w'') : Ch S w w'' :=
  ⟨k.os.trans h.os, k.tape.trans h.tape, k.output.trans h.output, Nat.le_trans h.size k.size, fun i hi hn => (k.keep i (Nat.lt_of_lt_of_le hi h.size) hn).trans (h.keep i hi hn)⟩
theorem Ch.wide (h : Ch S w w') (hs : ∀ x, x ∈ S → x ∈ S') : Ch S' w w' := ⟨h.os, h.tape, h.output, h.size, fun k hk hn => h.keep k hk (fun hm => hn (hs _ hm))⟩
theorem Blk.ch {g : Nat} {t : TypeId} {cs : Array Value} (hk : Blk w g t cs) (h : Ch S w w') (hn : some g ∉ S) : Blk w' g t cs := (h.keep g hk.lt hn).trans hk
theorem own_ch {C : Nat} {E : TypeId} {size n : Nat} {v : Value} {xs : List Value} (ho : w.ownsRow C E size v n xs) (h : Ch S w w') (hn : ∀ g, v.ownBlock = some g → some g ∉ S) : w'.ownsRow C E size v n xs := by
  obtain ⟨h1, h2⟩ := ho
  refine ⟨h1, ?_⟩
  rcases h2 with h2 | ⟨g, cap, cur, hv, hgB, hh, r⟩
  · exact .inl h2
  · have hlt : g < w.heap.size := by
      rcases Nat.lt_or_ge g w.heap.size with h | h
      · exact h
      · rw [Array.getElem?_eq_none h] at hh; cases hh
    exact .inr ⟨g, cap, cur, hv, hgB, (h.keep g hlt (hn g (by rw [hv]; rfl))).trans hh, r⟩
/-- Where a block of the call's own lies, and of what type it is. -/
theorem own_type {C : Nat} {E : TypeId} {size n : Nat} {v : Value} {xs : List Value} (ho : w.ownsRow C E size v n xs) {g : Nat} (hg : v.ownBlock = some g) : ∃ cs, Blk w g E cs := by
  rcases ho.2 with ⟨h1, _⟩ | ⟨g', cap, cur, hv, hgB, hh, r⟩
  · rw [h1] at hg; cases hg
  · rw [hv] at hg
    have : g' = g := by simpa [Value.ownBlock] using hg
    subst this
    exact ⟨cur, hh⟩
end
/-- Lists that are kept in a list: each has a block of its own. -/
structure Kept {α : Type} (f : α → List Value) (size : Nat) (E T1 : TypeId) (w : World) (B N : Nat) (V : Value) (v : Nat → Value) (l : Nat → List α) : Prop where
  outer : w.ownsRow B T1 1 V N ((List.range N).map v)
  own : ∀ i, i < N → w.ownsRow B E size (v i) (l i).length ((l i).flatMap f)
  apart : ∀ i j g, i < N → j < N → i ≠ j → (v i).ownBlock = some g → (v j).ownBlock ≠ some g
  few : ∀ i, i < N → (l i).length ≤ 1000
section
variable {α : Type} {f : α → List Value} {size : Nat} {E T1 : TypeId} {w w' : World} {B N : Nat} {V : Value} {v : Nat → Value} {l : Nat → List α}
theorem Kept.stays (h : Kept f size E T1 w B N V v l) (hs : Stays w w') : Kept f size E T1 w' B N V v l := ⟨own_stays h.outer hs, fun i hi => own_stays (h.own i hi) hs, h.apart, h.few⟩
theorem Kept.frame {T : List TypeId} {C : Nat} (h : Kept f size E T1 w B N V v l) (hf : Frame w w' C T) (hE : E ∉ T) (hT : T1 ∉ T) : Kept f size E T1 w' B N V v l := ⟨own_frame h.outer hf hT, fun i hi => own_frame (h.own i hi) hf hE, h.apart, h.few⟩
theorem Kept.ch {S : List (Option Nat)} (h : Kept f size E T1 w B N V v l) (hc : Ch S w w') (hV : ∀ g, V.ownBlock = some g → some g ∉ S) (hv : ∀ i g, i < N → (v i).ownBlock = some g → some g ∉ S) : Kept f size E T1 w' B N V v l := ⟨own_ch h.outer hc hV, fun i hi => own_ch (h.own i hi) hc (fun g hg => hv i g hi hg), h.apart, h.few⟩
theorem Kept.nil (w : World) (B : Nat) (v : Nat → Value) (l : Nat → List α) : Kept f size E T1 w B 0 (.slice none 0 0) v l := ⟨World.ownsRow_nil _ _ _ _, fun i hi => by omega, fun i j g hi => by omega, fun i hi => by omega⟩
def addAt {β : Type} (v : Nat → β) (N : Nat) (x : β) : Nat → β := fun i => if i = N then x else v i
theorem addAt_lt {β : Type} {v : Nat → β} {N i : Nat} {x : β} (h : i < N) : addAt v N x i = v i := by unfold addAt; rw [if_neg (by omega)]
theorem addAt_at {β : Type} {v : Nat → β} {N : Nat} {x : β} : addAt v N x N = x := by unfold addAt; rw [if_pos rfl]
theorem addAt_map {β : Type} (v : Nat → β) (N : Nat) (x : β) : (List.range (N + 1)).map (addAt v N x) = (List.range N).map v ++ [x] := by
  rw [List.range_succ, List.map_append]
  congr 1
  · exact List.map_congr_left fun i hi => addAt_lt (List.mem_range.1 hi)
  · simp [addAt_at]
/-- One more list; it lies where none of the others lies. -/
theorem Kept.snoc (h : Kept f size E T1 w B N V v l) {V' x : Value} {lx : List α} (ho : w'.ownsRow B T1 1 V' (N + 1) ((List.range N).map v ++ [x])) (hk : ∀ i, i < N → w'.ownsRow B E size (v i) (l i).length ((l i).flatMap f))
    (hx : w'.ownsRow B E size x lx.length (lx.flatMap f)) (hn : ∀ i g, i < N → (v i).ownBlock = some g → x.ownBlock ≠ some g) (hf : lx.length ≤ 1000) : Kept f size E T1 w' B (N + 1) V' (addAt v N x) (addAt l N lx) := by
  refine ⟨by rw [addAt_map]; exact ho, fun i hi => ?_, fun i j g hi hj hij hg => ?_, fun i hi => ?_⟩
  · by_cases hiN : i = N
    · subst hiN; rw [addAt_at, addAt_at]; exact hx
    · rw [addAt_lt (by omega), addAt_lt (by omega)]; exact hk i (by omega)
  · by_cases hiN : i = N
    · subst hiN
      rw [addAt_at] at hg
      rw [addAt_lt (by omega)]
      exact fun e => hn j g (by omega) e hg
    · rw [addAt_lt (by omega)] at hg
      by_cases hjN : j = N
      · subst hjN; rw [addAt_at]; exact hn i g (by omega) hg
      · rw [addAt_lt (by omega)]; exact h.apart i j g (by omega) (by omega) hij hg
  · by_cases hiN : i = N
    · subst hiN; rw [addAt_at]; exact hf
    · rw [addAt_lt (by omega)]; exact h.few i (by omega)
end
end Go.Proofs.YtemjipongehjlaaGreat
/- What the book's Legs and Texts leave. -/
namespace Go.Proofs.YtemjipongehjlaaGreat
set_option linter.unusedVariables false
open Go.RowKit Go.BigFrame
/-- The book's cells: its texts and legs, and the copies; all other lists are empty. -/
def bookCells (tx tw lg lw : Value) : Array Value := #[tx, tw, .slice none 0 0, .slice none 0 0, .slice none 0 0, .slice none 0 0, .slice none 0 0, .slice none 0 0, .slice none 0 0, .slice none 0 0, .slice none 0 0, .slice none 0 0, .slice none 0 0, .slice none 0 0, .slice none 0 0, .slice none 0 0, .slice none 0 0, .slice none 0 0, .slice none 0 0, .slice none 0 0, lg, lw, .slice none 0 0, .slice none 0 0, .slice none 0 0, .slice none 0 0, .slice none 0 0, .slice none 0 0, .slice none 0 0, .slice none 0 0, .slice none 0 0, .slice none 0 0, .slice none 0 0, .slice none 0 0]
abbrev KeptL := Kept P.Leg.cells 6 69 26
def strCells (s : ByteArray) : List Value := [.string s]
abbrev KeptS := Kept strCells 1 9 29
theorem strCells_map (l : List ByteArray) : l.flatMap strCells = l.map Value.string := by
  induction l with
  | nil => rfl
  | cons x l ih => rw [List.flatMap_cons, ih]; rfl
theorem OwnS.flat {w : World} {B : Nat} {v : Value} {l : List ByteArray} (h : OwnS w B v l) : w.ownsRow B 9 1 v l.length (l.flatMap strCells) := by rw [strCells_map]; exact h
theorem OwnS.of_flat {w : World} {B : Nat} {v : Value} {l : List ByteArray} (h : w.ownsRow B 9 1 v l.length (l.flatMap strCells)) : OwnS w B v l := by rw [strCells_map] at h; exact h
theorem infoLs : (Tryz.prog.info? 26).map (fun i => (i.zero, i.size, i.bytes)) = some (some (.slice none 0 0), 1, 24) := by kernel_rfl
theorem infoSs : (Tryz.prog.info? 29).map (fun i => (i.zero, i.size, i.bytes)) = some (some (.slice none 0 0), 1, 24) := by kernel_rfl
section
variable {w w' : World} {B C : Nat} {E : TypeId} {size n : Nat} {v : Value} {xs : List Value}
theorem own_slice (h : w.ownsRow B E size v n xs) : ∃ A c, v = .slice A n c ∧ (A = none → n = 0 ∧ c = 0) := by
  rcases h.2 with ⟨rfl, rfl⟩ | ⟨g, cap, cur, hv, _⟩
  · exact ⟨none, 0, rfl, fun _ => ⟨rfl, rfl⟩⟩
  · exact ⟨_, _, hv, fun h => by cases h⟩
theorem own_less (h : w.ownsRow B E size v n xs) (hC : C ≤ B) : w.ownsRow C E size v n xs := by
  obtain ⟨h1, h2⟩ := h
  refine ⟨h1, ?_⟩
  rcases h2 with h2 | ⟨g, cap, cur, hv, hg, r⟩
  · exact .inl h2
  · exact .inr ⟨g, cap, cur, hv, Nat.le_trans hC hg, r⟩
theorem own_one (h : w.ownsRow B E size v n xs) : v.oneCell' = true := by
  obtain ⟨A, c, rfl, _⟩ := own_slice h
  rfl
theorem own_ne {E' : TypeId} {g : Nat} {cs : Array Value} (h : w.ownsRow B E size v n xs) (hk : Blk w g E' cs) (hE : E ≠ E') : v.ownBlock ≠ some g := fun e => by
  obtain ⟨cs', hb⟩ := own_type h e
  exact Blk.ne_ hb hk hE rfl
end
/-- What the operations that make a copy and put it into a list leave. -/
structure AddI (W0 : World) (B : Nat) (T1 : TypeId) (lw : Value) (N : Nat) (xs : List Value) (E : TypeId) (size n : Nat) (ys : List Value) (L : Nat → Bool) (vs : Nat → Value) (w : World) : Prop where
  st : L 8 = false → Stays W0 w
  six : L 6 = true → L 8 = false → w.ownsRow W0.heap.size E size (vs 6) n ys
  seven : L 7 = true → L 8 = false → ∃ g, vs 7 = .slice (some ⟨g, 0, none⟩) 1 1 ∧ Blk w g T1 #[vs 6]
  eight : L 8 = true → ∃ w1, Stays W0 w1 ∧ w1.ownsRow W0.heap.size E size (vs 6) n ys ∧ w.ownsRow B T1 1 (vs 8) (N + 1) (xs ++ [vs 6]) ∧ w1.grownBy w lw.ownBlock ∧ ((vs 8).ownBlock = lw.ownBlock ∨ (vs 8).ownBlock = some w1.heap.size)
section
variable {W0 : World} {B : Nat} {T1 : TypeId} {lw : Value} {N : Nat} {xs : List Value} {E : TypeId} {size n : Nat} {ys : List Value} {L : Nat → Bool} {vs : Nat → Value} {w w' : World}
theorem AddI.start : AddI W0 B T1 lw N xs E size n ys (fun _ => false) vs { W0 with drawn := W0.drawn + 1 } := ⟨fun _ => Stays.draw _, (fun h => by cases h), (fun h => by cases h), (fun h => by cases h)⟩
theorem AddI.pure (h : AddI W0 B T1 lw N xs E size n ys L vs w) {k : Nat} {v : Value} (h6 : k ≠ 6) (h7 : k ≠ 7) (h8 : k ≠ 8) : AddI W0 B T1 lw N xs E size n ys (upd L k) (updv vs k v) w := by
  have e6 : upd L k 6 = L 6 := updN (Ne.symm h6)
  have e7 : upd L k 7 = L 7 := updN (Ne.symm h7)
  have e8 : upd L k 8 = L 8 := updN (Ne.symm h8)
  have v6 : updv vs k v 6 = vs 6 := by simp [updv, Ne.symm h6]
  have v7 : updv vs k v 7 = vs 7 := by simp [updv, Ne.symm h7]
  have v8 : updv vs k v 8 = vs 8 := by simp [updv, Ne.symm h8]
  exact ⟨by rw [e8]; exact h.st, by rw [e6, e8, v6]; exact h.six, by rw [e7, e8, v7, v6]; exact h.seven, by rw [e8, v6, v8]; exact h.eight⟩
theorem AddI.op6 (h : AddI W0 B T1 lw N xs E size n ys L vs w) (h7 : L 7 = false) (h8 : L 8 = false) {v : Value} (hs : Stays w w') (ho : w'.ownsRow W0.heap.size E size v n ys) : AddI W0 B T1 lw N xs E size n ys (upd L 6) (updv vs 6 v) w' :=
  ⟨fun _ => (h.st h8).trans hs, fun _ _ => by simpa [updv] using ho, fun hh => by simp [upd, h7] at hh, fun hh => by simp [upd, h8] at hh⟩
theorem AddI.op7 (h : AddI W0 B T1 lw N xs E size n ys L vs w) (h6 : L 6 = true) (h8 : L 8 = false) : AddI W0 B T1 lw N xs E size n ys (upd L 7) (updv vs 7 (.slice (some ⟨w.heap.size, 0, none⟩) 1 1)) (w.alloc (.cells #[vs 6] T1)) :=
  ⟨fun _ => (h.st h8).trans (Stays.alloc _ _), fun _ _ => by simpa [updv] using own_stays (h.six h6 h8) (Stays.alloc _ _), fun _ _ => ⟨w.heap.size, by simp [updv], by simpa [updv] using Blk.new w T1 #[vs 6]⟩, fun hh => by simp [upd, h8] at hh⟩
theorem AddI.op8 (h : AddI W0 B T1 lw N xs E size n ys L vs w) (h6 : L 6 = true) (h8 : L 8 = false) {v : Value} (ho : w'.ownsRow B T1 1 v (N + 1) (xs ++ [vs 6])) (hg : w.grownBy w' lw.ownBlock) (ha : v.ownBlock = lw.ownBlock ∨ v.ownBlock = some w.heap.size) : AddI W0 B T1 lw N xs E size n ys (upd L 8) (updv vs 8 v) w' :=
  ⟨fun hh => by simp [upd] at hh, fun _ hh => by simp [upd] at hh, fun _ hh => by simp [upd] at hh, fun _ => ⟨w, h.st h8, by simpa [updv] using h.six h6 h8, by simpa [updv] using ho, hg, by simpa [updv] using ha⟩⟩
end
def GivesBookL (w : World) (gb B : Nat) (tx tw : Value) (N : Nat) (x : Value) (lx : List P.Leg) (v u : Nat → Value) (l : Nat → List P.Leg) (e : Ending) (w' : World) : Prop :=
  e = .returned (.tuple #[]) ∧ ∃ lg lw x2, Blk w' gb 51 (bookCells tx tw lg lw) ∧ KeptL w' B (N + 1) lg (addAt v N x) (addAt l N lx) ∧ KeptL w' B (N + 1) lw (addAt u N x2) (addAt l N lx) ∧ (∀ g, lg.ownBlock = some g → lw.ownBlock ≠ some g) ∧ Frame w w' B [51, 26]
set_option maxRecDepth 100000 in
set_option maxHeartbeats 4000000 in
theorem bookLegs_any (gb B C : Nat) (tx tw lg lw x : Value) (N : Nat) (lx : List P.Leg) (v u : Nat → Value) (l : Nat → List P.Leg) (w : World)
    (hb : Blk w gb 51 (bookCells tx tw lg lw)) (hK : KeptL w B N lg v l) (hU : KeptL w B N lw u l) (hne : ∀ g, lg.ownBlock = some g → lw.ownBlock ≠ some g)
    (hx : OwnL w C x lx) (hC : ∀ i g, i < N → (v i).ownBlock = some g → g < C) (hN : N < 250) (hf : lx.length ≤ 1000) (hB : B ≤ gb) (hBC : B ≤ C) :
    Calls Tryz.prog 25 #[.pointer (some ⟨gb, 0, none⟩), x] w (GivesBookL w gb B tx tw N x lx v u l) := by
  obtain ⟨i0, hi0, hz0, hs0, hb0⟩ := info_parts infoLs
  have hBw : B ≤ w.heap.size := Nat.le_trans hB (Nat.le_of_lt hb.lt)
  obtain ⟨Ax, cx, rfl, hxn⟩ := own_slice hx
  obtain ⟨Ag, cg, rfl, _⟩ := own_slice hK.outer
  obtain ⟨Aw, cw, rfl, _⟩ := own_slice hU.outer
  have hgl := own_ne hK.outer hb (by decide)
  have hgw := own_ne hU.outer hb (by decide)
  have c20 : w.cell? ⟨gb, 20, none⟩ = some (.slice Ag N cg) := by rw [hb.cell]; rfl
  have HB := Lib.hid hb
  have HK := Lib.hid hK
  have HU := Lib.hid hU
  have HX := Lib.hid hx
  have HC := Lib.hid hC
  have HNE := Lib.hid hne
  have HGL := Lib.hid hgl
  have HGW := Lib.hid hgw
  have HXN := Lib.hid hxn
  have t0 : decide ((N : Int) < 250) = true := by simp; omega
  clear hb hK hU hx hC hne hgl hgw hxn
  go_enter Tryz.func25, Tryz.ntmps25
  go_wp2_with (at_builtin; refine wpList_append_own_at (w.alloc (.cells #[.slice Ax lx.length cx] 26)) rfl (.tmp 14) (.tmp 16) 43 rfl B 26 i0 (.slice none 0 0) 1 24 Tryz.underlying43 hi0 hz0 hs0 hb0 rfl (by omega) (.slice Ag N cg) N ((List.range N).map v) rfl (own_stays HK.out.outer (Stays.alloc _ _)) ⟨w.heap.size, 0, none⟩ 1 1 [.slice Ax lx.length cx] rfl rfl (cell_one_new _ _ _) (by simp [Value.oneCell']) (by unfold maxLen; omega) (by omega) (by simp; omega) ?_; intro V' w4 hown4 hgr4 _ hat; obtain ⟨AV, cV, rfl, _⟩ := own_slice hown4; have g4 := (Stays.alloc w (.cells #[.slice Ax lx.length cx] 26)).grown (Value.ownBlock (.slice Ag N cg)); have hb4 := HB.out.grown (g4.trans hgr4) (fun e => HGL.out e.symm); have B4 := Lib.hid hb4; have fz4 := hb4.frozen 20; have c204 : w4.cell? ⟨gb, 20, none⟩ = some (.slice Ag N cg) := (hb4.cell 20).trans rfl; have O4 := Lib.hid hown4; have G4 := Lib.hid (g4.trans hgr4); have HAT := Lib.hid hat; clear hown4 hgr4 g4 hb4 c20 hat)
  have ch5 : Ch [some gb, Value.ownBlock (.slice Ag N cg)] w (w4.setCell ⟨gb, 20, none⟩ (.slice AV (N + 1) cV)) := (Ch.of_grown G4.out (by simp)).trans (Ch.of_grown (grown_set w4 gb 20 (.slice AV (N + 1) cV)) (by simp))
  have fr5 : Frame w (w4.setCell ⟨gb, 20, none⟩ (.slice AV (N + 1) cV)) B [51, 26] := (Frame.of_own G4.out (own_less HK.out.outer (Nat.le_refl _)) (by simp)).trans (Frame.of_grown (grown_set w4 gb 20 (.slice AV (N + 1) cV)) B4.out hB (by simp))
  have hb5 : Blk (w4.setCell ⟨gb, 20, none⟩ (.slice AV (N + 1) cV)) gb 51 (bookCells tx tw (.slice AV (N + 1) cV) (.slice Aw N cw)) := B4.out.set_ 20 (.slice AV (N + 1) cV)
  have hk5 : KeptL (w4.setCell ⟨gb, 20, none⟩ (.slice AV (N + 1) cV)) B (N + 1) (.slice AV (N + 1) cV) (addAt v N (.slice Ax lx.length cx)) (addAt l N lx) := by
    refine Kept.snoc HK.out (own_grown O4.out (grown_set w4 gb 20 (.slice AV (N + 1) cV)) (own_ne O4.out B4.out (by decide))) (fun i hi => own_frame (HK.out.own i hi) fr5 (by decide)) (own_frame (own_less HX.out hBC) fr5 (by decide)) (fun i g hi hg e => ?_) hf
    have h1 := (World.ownsRow.lt HX.out g e).1
    have h2 := HC.out i g hi hg
    omega
  have hu5 : KeptL (w4.setCell ⟨gb, 20, none⟩ (.slice AV (N + 1) cV)) B N (.slice Aw N cw) u l := by
    refine ⟨own_ch HU.out.outer ch5 (fun g hg => ?_), fun i hi => own_frame (HU.out.own i hi) fr5 (by decide), HU.out.apart, HU.out.few⟩
    simp only [List.mem_cons, List.not_mem_nil, or_false, not_or]
    exact ⟨fun e => HGW.out (by rw [hg, e]), fun e => HNE.out g e.symm hg⟩
  have hx5 : OwnL (w4.setCell ⟨gb, 20, none⟩ (.slice AV (N + 1) cV)) C (.slice Ax lx.length cx) lx := own_frame HX.out fr5 (by decide)
  have hne5 : ∀ g, (Value.slice AV (N + 1) cV).ownBlock = some g → (Value.slice Aw N cw).ownBlock ≠ some g := fun g hg e => by
    rcases HAT.out with h1 | h1
    · exact HNE.out g (by rw [← h1, hg]) e
    · rw [hg] at h1
      have h2 := (World.ownsRow.lt HU.out.outer g e).2
      have : g = w.heap.size + 1 := by simpa using h1
      omega
  have K5 := Lib.hid hk5
  have U5 := Lib.hid hu5
  have X5 := Lib.hid hx5
  have N5 := Lib.hid hne5
  have F5 := Lib.hid fr5
  have B5 := Lib.hid hb5
  clear ch5 hb5 hk5 hu5 hx5 hne5 fr5 fz4 c204
  generalize w4.setCell ⟨gb, 20, none⟩ (.slice AV (N + 1) cV) = w5 at *
  refine wp_region_genC 9 [6, 7, 8] (AddI w5 B 26 (.slice Aw N cw) N ((List.range N).map u) 69 6 lx.length (lx.flatMap P.Leg.cells)) (by kernel_rfl) (by kernel_rfl) AddI.start ?_
  apply wpGenC_pure rfl
  · intro L vs wx hI hC hR hL K hK
    go_simp
    exact hK _ (hI.pure (by decide) (by decide) (by decide))
  intro KK hKK
  go_simp
  refine hKK _ ?_
  clear hKK KK
  apply wpGenC_pure rfl
  · intro L vs wx hI hC hR hL K hK
    go_simp
    exact hK _ (hI.pure (by decide) (by decide) (by decide))
  intro KK hKK
  go_simp
  refine hKK _ ?_
  clear hKK KK
  apply wpGenC_pure rfl
  · intro L vs wx hI hC hR hL K hK
    go_simp
    exact hK _ (hI.pure (by decide) (by decide) (by decide))
  intro KK hKK
  go_simp
  refine hKK _ ?_
  clear hKK KK
  apply wpGenC_pure rfl
  · intro L vs wx hI hC hR hL K hK
    go_simp
    exact hK _ (hI.pure (by decide) (by decide) (by decide))
  intro KK hKK
  go_simp
  refine hKK _ ?_
  clear hKK KK
  apply wpGenC_pure rfl
  · intro L vs wx hI hC hR hL K hK
    have h8 : L 8 = false := hC.off hL (by kernel_rfl)
    have c21 : wx.cell? ⟨gb, 21, none⟩ = some (.slice Aw N cw) := ((B5.out.stays (hI.st h8)).cell 21).trans rfl
    go_simp
    exact hK _ (hI.pure (by decide) (by decide) (by decide))
  intro KK hKK
  go_simp
  refine hKK _ ?_
  clear hKK KK
  apply wpGenC_pure rfl
  · intro L vs wx hI hC hR hL K hK
    go_simp
    exact hK _ (hI.pure (by decide) (by decide) (by decide))
  intro KK hKK
  go_simp
  refine hKK _ ?_
  clear hKK KK
  refine wpGenC_fact rfl ?_ ?_
  · intro L vs wx hI hC hR hL K hK
    have h7 : L 7 = false := hC.off hL (by kernel_rfl)
    have h8 : L 8 = false := hC.off hL (by kernel_rfl)
    have hs := hI.st h8
    go_simp
    refine (copyLegs_any Ax lx.length cx lx wx.heap.size wx (OwnL.legs (X5.out.stays hs)) HXN.out (by omega)).mono ?_
    rintro e w' ⟨v6, rfl, ho6, hb6⟩
    exact ⟨_, rfl, hK _ _ (hI.op6 h7 h8 hb6 (own_less ho6 hs.size))⟩
  intro KK hKK
  go_simp
  refine hKK _ ?_
  clear hKK KK
  refine wpGenC_fact rfl ?_ ?_
  · intro L vs wx hI hC hR hL K hK
    have h6 := hR 6 (by kernel_rfl)
    have h8 : L 8 = false := hC.off hL (by kernel_rfl)
    obtain ⟨A6, c6, e6, _⟩ := own_slice (hI.six h6 h8)
    rw [e6]
    go_simp
    rw [← e6]
    exact hK _ _ (hI.op7 h6 h8)
  intro KK hKK
  go_simp
  refine hKK _ ?_
  clear hKK KK
  refine wpGenC_fact rfl ?_ ?_
  · intro L vs wx hI hC hR hL K hK
    have h6 := hR 6 (by kernel_rfl)
    have h7 := hR 7 (by kernel_rfl)
    obtain ⟨g7, e7, hk7⟩ := hI.seven h7 hL
    have hs := hI.st hL
    obtain ⟨v', w', hr, ho, hg, _, ha⟩ := run_append_own_at (P := Tryz.prog) wx B 43 43 26 i0 (.slice none 0 0) 1 24 Tryz.underlying43 hi0 hz0 hs0 hb0 rfl (by omega) (.slice Aw N cw) N ((List.range N).map u) (own_stays U5.out.outer hs) ⟨g7, 0, none⟩ 1 1 [vs 6] rfl (fun j z hz => by
      match j, hz with
      | 0, hz =>
        cases hz
        rw [Addr.add_lit, Nat.zero_add, hk7.cell]
        rfl) (fun z hz => by simp at hz; subst hz; exact own_one (hI.six h6 hL)) (by unfold maxLen; omega) (by omega) (by have := hs.size; have := B5.out.lt; omega)
    exact stepF_append rfl (.tmp 24) (.tmp 27) 43 rfl rfl (by rw [← e7]; rfl) hr (hK _ _ (hI.op8 h6 hL ho hg ha))
  intro KK hKK
  go_simp
  refine hKK _ ?_
  clear hKK KK
  refine wpGenC_nil ?_
  intro vs w6 hI6
  obtain ⟨w1, hs1, hx1, ho6, hg6, ha6⟩ := hI6.eight (by decide)
  have b1 := B5.out.stays hs1
  have b6 := b1.grown hg6 (fun e => HGW.out e.symm)
  have U1 := own_stays U5.out.outer hs1
  obtain ⟨A8, c8, e8, _⟩ := own_slice ho6
  rw [e8] at ho6
  have c21 : w6.cell? ⟨gb, 21, none⟩ = some (.slice Aw N cw) := (b6.cell 21).trans rfl
  have f21 := b6.frozen 21
  have fr7 : Frame w (w6.setCell ⟨gb, 21, none⟩ (.slice A8 (N + 1) c8)) B [51, 26] := F5.out.trans ((Frame.of_stays hs1 _ _).trans ((Frame.of_own hg6 (own_less U1 (Nat.le_refl _)) (by simp)).trans (Frame.of_grown (grown_set w6 gb 21 (.slice A8 (N + 1) c8)) b6 hB (by simp))))
  have fr57 : Frame w5 (w6.setCell ⟨gb, 21, none⟩ (.slice A8 (N + 1) c8)) B [51, 26] := (Frame.of_stays hs1 _ _).trans ((Frame.of_own hg6 (own_less U1 (Nat.le_refl _)) (by simp)).trans (Frame.of_grown (grown_set w6 gb 21 (.slice A8 (N + 1) c8)) b6 hB (by simp)))
  have fr17 : Frame w1 (w6.setCell ⟨gb, 21, none⟩ (.slice A8 (N + 1) c8)) B [51, 26] := (Frame.of_own hg6 (own_less U1 (Nat.le_refl _)) (by simp)).trans (Frame.of_grown (grown_set w6 gb 21 (.slice A8 (N + 1) c8)) b6 hB (by simp))
  have ch57 : Ch [some gb, Value.ownBlock (.slice Aw N cw)] w5 (w6.setCell ⟨gb, 21, none⟩ (.slice A8 (N + 1) c8)) := (Ch.of_stays hs1 _).trans ((Ch.of_grown hg6 (by simp)).trans (Ch.of_grown (grown_set w6 gb 21 (.slice A8 (N + 1) c8)) (by simp)))
  have hb7 : Blk (w6.setCell ⟨gb, 21, none⟩ (.slice A8 (N + 1) c8)) gb 51 (bookCells tx tw (.slice AV (N + 1) cV) (.slice A8 (N + 1) c8)) := b6.set_ 21 (.slice A8 (N + 1) c8)
  have B7 := Lib.hid hb7
  have F7 := Lib.hid fr7
  have K7 : Hid (KeptL (w6.setCell ⟨gb, 21, none⟩ (.slice A8 (N + 1) c8)) B (N + 1) (.slice AV (N + 1) cV) (addAt v N (.slice Ax lx.length cx)) (addAt l N lx)) := Lib.hid ⟨own_ch K5.out.outer ch57 (fun g hg => by
    simp only [List.mem_cons, List.not_mem_nil, or_false, not_or]
    exact ⟨fun e => own_ne K5.out.outer B5.out (by decide) (by rw [hg, e]), fun e => N5.out g hg e.symm⟩), fun i hi => own_frame (K5.out.own i hi) fr57 (by decide), K5.out.apart, K5.out.few⟩
  have U7 : Hid (KeptL (w6.setCell ⟨gb, 21, none⟩ (.slice A8 (N + 1) c8)) B (N + 1) (.slice A8 (N + 1) c8) (addAt u N (vs 6)) (addAt l N lx)) := by
    refine Lib.hid (Kept.snoc U5.out (own_grown ho6 (grown_set w6 gb 21 (.slice A8 (N + 1) c8)) (own_ne ho6 b6 (by decide))) (fun i hi => own_frame (U5.out.own i hi) fr57 (by decide)) (own_frame (own_less hx1 (by have := B5.out.lt; omega)) fr17 (by decide)) (fun i g hi hg e => ?_) hf)
    have h1 := (World.ownsRow.lt hx1 g e).1
    have h2 := (World.ownsRow.lt (U5.out.own i hi) g hg).2
    omega
  have N7 : Hid (∀ g, (Value.slice AV (N + 1) cV).ownBlock = some g → (Value.slice A8 (N + 1) c8).ownBlock ≠ some g) := Lib.hid fun g hg e => by
    rw [e8] at ha6
    rcases ha6 with h1 | h1
    · exact N5.out g hg (by rw [← h1, e])
    · have h2 := (World.ownsRow.lt K5.out.outer g hg).2
      rw [e] at h1
      have : g = w1.heap.size := by simpa using h1
      have := hs1.size
      omega
  have E8 := Lib.hid e8
  clear e8 hI6 hs1 hx1 ho6 hg6 b1 b6 U1 fr7 fr57 fr17 ch57 hb7
  intro KK hKK
  rw [E8.out]
  simp only [List.drop_succ_cons, List.drop_zero]
  go_wp2
  go_end0
  exact ⟨rfl, _, _, _, B7.out, K7.out, U7.out, N7.out, F7.out⟩
end Go.Proofs.YtemjipongehjlaaGreat
/- What the book's Texts leaves. -/
namespace Go.Proofs.YtemjipongehjlaaGreat
set_option linter.unusedVariables false
open Go.RowKit Go.BigFrame
theorem strs_of {w : World} {B m c : Nat} {A : Option Addr} {l : List ByteArray} (h : w.ownsRow B 9 1 (.slice A m c) l.length (l.flatMap strCells)) : StrsAt w w.heap.size A l.length l := by
  rw [strCells_map] at h
  exact Reads.of_own (c := c) (by obtain ⟨A', c', e, _⟩ := own_slice h; cases e; exact h)
def GivesBookS (w : World) (gb B : Nat) (ox ow : Value) (N : Nat) (x : Value) (lx : List ByteArray) (v u : Nat → Value) (l : Nat → List ByteArray) (e : Ending) (w' : World) : Prop :=
  e = .returned (.tuple #[]) ∧ ∃ lg lw x2, Blk w' gb 51 (bookCells lg lw ox ow) ∧ KeptS w' B (N + 1) lg (addAt v N x) (addAt l N lx) ∧ KeptS w' B (N + 1) lw (addAt u N x2) (addAt l N lx) ∧ (∀ g, lg.ownBlock = some g → lw.ownBlock ≠ some g) ∧ Frame w w' B [51, 29]
set_option maxRecDepth 100000 in
set_option maxHeartbeats 4000000 in
theorem bookTexts_any (gb B C : Nat) (ox ow lg lw x : Value) (N : Nat) (lx : List ByteArray) (v u : Nat → Value) (l : Nat → List ByteArray) (w : World)
    (hb : Blk w gb 51 (bookCells lg lw ox ow)) (hK : KeptS w B N lg v l) (hU : KeptS w B N lw u l) (hne : ∀ g, lg.ownBlock = some g → lw.ownBlock ≠ some g)
    (hx : w.ownsRow C 9 1 x lx.length (lx.flatMap strCells)) (hC : ∀ i g, i < N → (v i).ownBlock = some g → g < C) (hN : N < 250) (hf : lx.length ≤ 1000) (hB : B ≤ gb) (hBC : B ≤ C) :
    Calls Tryz.prog 26 #[.pointer (some ⟨gb, 0, none⟩), x] w (GivesBookS w gb B ox ow N x lx v u l) := by
  obtain ⟨i0, hi0, hz0, hs0, hb0⟩ := info_parts infoSs
  have hBw : B ≤ w.heap.size := Nat.le_trans hB (Nat.le_of_lt hb.lt)
  obtain ⟨Ax, cx, rfl, hxn⟩ := own_slice hx
  obtain ⟨Ag, cg, rfl, _⟩ := own_slice hK.outer
  obtain ⟨Aw, cw, rfl, _⟩ := own_slice hU.outer
  have hgl := own_ne hK.outer hb (by decide)
  have hgw := own_ne hU.outer hb (by decide)
  have c20 : w.cell? ⟨gb, 0, none⟩ = some (.slice Ag N cg) := by rw [hb.cell]; rfl
  have HB := Lib.hid hb
  have HK := Lib.hid hK
  have HU := Lib.hid hU
  have HX := Lib.hid hx
  have HC := Lib.hid hC
  have HNE := Lib.hid hne
  have HGL := Lib.hid hgl
  have HGW := Lib.hid hgw
  have HXN := Lib.hid hxn
  have t0 : decide ((N : Int) < 250) = true := by simp; omega
  clear hb hK hU hx hC hne hgl hgw hxn
  go_enter Tryz.func26, Tryz.ntmps26
  go_wp2_with (at_builtin; refine wpList_append_own_at (w.alloc (.cells #[.slice Ax lx.length cx] 29)) rfl (.tmp 14) (.tmp 16) 33 rfl B 29 i0 (.slice none 0 0) 1 24 Tryz.underlying33 hi0 hz0 hs0 hb0 rfl (by omega) (.slice Ag N cg) N ((List.range N).map v) rfl (own_stays HK.out.outer (Stays.alloc _ _)) ⟨w.heap.size, 0, none⟩ 1 1 [.slice Ax lx.length cx] rfl rfl (cell_one_new _ _ _) (by simp [Value.oneCell']) (by unfold maxLen; omega) (by omega) (by simp; omega) ?_; intro V' w4 hown4 hgr4 _ hat; obtain ⟨AV, cV, rfl, _⟩ := own_slice hown4; have g4 := (Stays.alloc w (.cells #[.slice Ax lx.length cx] 29)).grown (Value.ownBlock (.slice Ag N cg)); have hb4 := HB.out.grown (g4.trans hgr4) (fun e => HGL.out e.symm); have B4 := Lib.hid hb4; have fz4 := hb4.frozen 0; have c204 : w4.cell? ⟨gb, 0, none⟩ = some (.slice Ag N cg) := (hb4.cell 0).trans rfl; have O4 := Lib.hid hown4; have G4 := Lib.hid (g4.trans hgr4); have HAT := Lib.hid hat; clear hown4 hgr4 g4 hb4 c20 hat)
  have ch5 : Ch [some gb, Value.ownBlock (.slice Ag N cg)] w (w4.setCell ⟨gb, 0, none⟩ (.slice AV (N + 1) cV)) := (Ch.of_grown G4.out (by simp)).trans (Ch.of_grown (grown_set w4 gb 0 (.slice AV (N + 1) cV)) (by simp))
  have fr5 : Frame w (w4.setCell ⟨gb, 0, none⟩ (.slice AV (N + 1) cV)) B [51, 29] := (Frame.of_own G4.out (own_less HK.out.outer (Nat.le_refl _)) (by simp)).trans (Frame.of_grown (grown_set w4 gb 0 (.slice AV (N + 1) cV)) B4.out hB (by simp))
  have hb5 : Blk (w4.setCell ⟨gb, 0, none⟩ (.slice AV (N + 1) cV)) gb 51 (bookCells (.slice AV (N + 1) cV) (.slice Aw N cw) ox ow) := B4.out.set_ 0 (.slice AV (N + 1) cV)
  have hk5 : KeptS (w4.setCell ⟨gb, 0, none⟩ (.slice AV (N + 1) cV)) B (N + 1) (.slice AV (N + 1) cV) (addAt v N (.slice Ax lx.length cx)) (addAt l N lx) := by
    refine Kept.snoc HK.out (own_grown O4.out (grown_set w4 gb 0 (.slice AV (N + 1) cV)) (own_ne O4.out B4.out (by decide))) (fun i hi => own_frame (HK.out.own i hi) fr5 (by decide)) (own_frame (own_less HX.out hBC) fr5 (by decide)) (fun i g hi hg e => ?_) hf
    have h1 := (World.ownsRow.lt HX.out g e).1
    have h2 := HC.out i g hi hg
    omega
  have hu5 : KeptS (w4.setCell ⟨gb, 0, none⟩ (.slice AV (N + 1) cV)) B N (.slice Aw N cw) u l := by
    refine ⟨own_ch HU.out.outer ch5 (fun g hg => ?_), fun i hi => own_frame (HU.out.own i hi) fr5 (by decide), HU.out.apart, HU.out.few⟩
    simp only [List.mem_cons, List.not_mem_nil, or_false, not_or]
    exact ⟨fun e => HGW.out (by rw [hg, e]), fun e => HNE.out g e.symm hg⟩
  have hx5 : World.ownsRow (w4.setCell ⟨gb, 0, none⟩ (.slice AV (N + 1) cV)) C 9 1 (.slice Ax lx.length cx) lx.length (lx.flatMap strCells) := own_frame HX.out fr5 (by decide)
  have hne5 : ∀ g, (Value.slice AV (N + 1) cV).ownBlock = some g → (Value.slice Aw N cw).ownBlock ≠ some g := fun g hg e => by
    rcases HAT.out with h1 | h1
    · exact HNE.out g (by rw [← h1, hg]) e
    · rw [hg] at h1
      have h2 := (World.ownsRow.lt HU.out.outer g e).2
      have : g = w.heap.size + 1 := by simpa using h1
      omega
  have K5 := Lib.hid hk5
  have U5 := Lib.hid hu5
  have X5 := Lib.hid hx5
  have N5 := Lib.hid hne5
  have F5 := Lib.hid fr5
  have B5 := Lib.hid hb5
  clear ch5 hb5 hk5 hu5 hx5 hne5 fr5 fz4 c204
  generalize w4.setCell ⟨gb, 0, none⟩ (.slice AV (N + 1) cV) = w5 at *
  refine wp_region_genC 9 [6, 7, 8] (AddI w5 B 29 (.slice Aw N cw) N ((List.range N).map u) 9 1 lx.length (lx.flatMap strCells)) (by kernel_rfl) (by kernel_rfl) AddI.start ?_
  apply wpGenC_pure rfl
  · intro L vs wx hI hC hR hL K hK
    go_simp
    exact hK _ (hI.pure (by decide) (by decide) (by decide))
  intro KK hKK
  go_simp
  refine hKK _ ?_
  clear hKK KK
  apply wpGenC_pure rfl
  · intro L vs wx hI hC hR hL K hK
    go_simp
    exact hK _ (hI.pure (by decide) (by decide) (by decide))
  intro KK hKK
  go_simp
  refine hKK _ ?_
  clear hKK KK
  apply wpGenC_pure rfl
  · intro L vs wx hI hC hR hL K hK
    go_simp
    exact hK _ (hI.pure (by decide) (by decide) (by decide))
  intro KK hKK
  go_simp
  refine hKK _ ?_
  clear hKK KK
  apply wpGenC_pure rfl
  · intro L vs wx hI hC hR hL K hK
    go_simp
    exact hK _ (hI.pure (by decide) (by decide) (by decide))
  intro KK hKK
  go_simp
  refine hKK _ ?_
  clear hKK KK
  apply wpGenC_pure rfl
  · intro L vs wx hI hC hR hL K hK
    have h8 : L 8 = false := hC.off hL (by kernel_rfl)
    have c21 : wx.cell? ⟨gb, 1, none⟩ = some (.slice Aw N cw) := ((B5.out.stays (hI.st h8)).cell 1).trans rfl
    go_simp
    exact hK _ (hI.pure (by decide) (by decide) (by decide))
  intro KK hKK
  go_simp
  refine hKK _ ?_
  clear hKK KK
  apply wpGenC_pure rfl
  · intro L vs wx hI hC hR hL K hK
    go_simp
    exact hK _ (hI.pure (by decide) (by decide) (by decide))
  intro KK hKK
  go_simp
  refine hKK _ ?_
  clear hKK KK
  refine wpGenC_fact rfl ?_ ?_
  · intro L vs wx hI hC hR hL K hK
    have h7 : L 7 = false := hC.off hL (by kernel_rfl)
    have h8 : L 8 = false := hC.off hL (by kernel_rfl)
    have hs := hI.st h8
    go_simp
    refine (copyTexts_any Ax lx.length cx lx wx.heap.size wx (strs_of (own_stays X5.out hs)) HXN.out (by omega)).mono ?_
    rintro e w' ⟨v6, rfl, ho6, hb6⟩
    exact ⟨_, rfl, hK _ _ (hI.op6 h7 h8 hb6 (own_less (OwnS.flat ho6) hs.size))⟩
  intro KK hKK
  go_simp
  refine hKK _ ?_
  clear hKK KK
  refine wpGenC_fact rfl ?_ ?_
  · intro L vs wx hI hC hR hL K hK
    have h6 := hR 6 (by kernel_rfl)
    have h8 : L 8 = false := hC.off hL (by kernel_rfl)
    obtain ⟨A6, c6, e6, _⟩ := own_slice (hI.six h6 h8)
    rw [e6]
    go_simp
    rw [← e6]
    exact hK _ _ (hI.op7 h6 h8)
  intro KK hKK
  go_simp
  refine hKK _ ?_
  clear hKK KK
  refine wpGenC_fact rfl ?_ ?_
  · intro L vs wx hI hC hR hL K hK
    have h6 := hR 6 (by kernel_rfl)
    have h7 := hR 7 (by kernel_rfl)
    obtain ⟨g7, e7, hk7⟩ := hI.seven h7 hL
    have hs := hI.st hL
    obtain ⟨v', w', hr, ho, hg, _, ha⟩ := run_append_own_at (P := Tryz.prog) wx B 33 33 29 i0 (.slice none 0 0) 1 24 Tryz.underlying33 hi0 hz0 hs0 hb0 rfl (by omega) (.slice Aw N cw) N ((List.range N).map u) (own_stays U5.out.outer hs) ⟨g7, 0, none⟩ 1 1 [vs 6] rfl (fun j z hz => by
      match j, hz with
      | 0, hz =>
        cases hz
        rw [Addr.add_lit, Nat.zero_add, hk7.cell]
        rfl) (fun z hz => by simp at hz; subst hz; exact own_one (hI.six h6 hL)) (by unfold maxLen; omega) (by omega) (by have := hs.size; have := B5.out.lt; omega)
    exact stepF_append rfl (.tmp 24) (.tmp 27) 33 rfl rfl (by rw [← e7]; rfl) hr (hK _ _ (hI.op8 h6 hL ho hg ha))
  intro KK hKK
  go_simp
  refine hKK _ ?_
  clear hKK KK
  refine wpGenC_nil ?_
  intro vs w6 hI6
  obtain ⟨w1, hs1, hx1, ho6, hg6, ha6⟩ := hI6.eight (by decide)
  have b1 := B5.out.stays hs1
  have b6 := b1.grown hg6 (fun e => HGW.out e.symm)
  have U1 := own_stays U5.out.outer hs1
  obtain ⟨A8, c8, e8, _⟩ := own_slice ho6
  rw [e8] at ho6
  have c21 : w6.cell? ⟨gb, 1, none⟩ = some (.slice Aw N cw) := (b6.cell 1).trans rfl
  have f21 := b6.frozen 1
  have fr7 : Frame w (w6.setCell ⟨gb, 1, none⟩ (.slice A8 (N + 1) c8)) B [51, 29] := F5.out.trans ((Frame.of_stays hs1 _ _).trans ((Frame.of_own hg6 (own_less U1 (Nat.le_refl _)) (by simp)).trans (Frame.of_grown (grown_set w6 gb 1 (.slice A8 (N + 1) c8)) b6 hB (by simp))))
  have fr57 : Frame w5 (w6.setCell ⟨gb, 1, none⟩ (.slice A8 (N + 1) c8)) B [51, 29] := (Frame.of_stays hs1 _ _).trans ((Frame.of_own hg6 (own_less U1 (Nat.le_refl _)) (by simp)).trans (Frame.of_grown (grown_set w6 gb 1 (.slice A8 (N + 1) c8)) b6 hB (by simp)))
  have fr17 : Frame w1 (w6.setCell ⟨gb, 1, none⟩ (.slice A8 (N + 1) c8)) B [51, 29] := (Frame.of_own hg6 (own_less U1 (Nat.le_refl _)) (by simp)).trans (Frame.of_grown (grown_set w6 gb 1 (.slice A8 (N + 1) c8)) b6 hB (by simp))
  have ch57 : Ch [some gb, Value.ownBlock (.slice Aw N cw)] w5 (w6.setCell ⟨gb, 1, none⟩ (.slice A8 (N + 1) c8)) := (Ch.of_stays hs1 _).trans ((Ch.of_grown hg6 (by simp)).trans (Ch.of_grown (grown_set w6 gb 1 (.slice A8 (N + 1) c8)) (by simp)))
  have hb7 : Blk (w6.setCell ⟨gb, 1, none⟩ (.slice A8 (N + 1) c8)) gb 51 (bookCells (.slice AV (N + 1) cV) (.slice A8 (N + 1) c8) ox ow) := b6.set_ 1 (.slice A8 (N + 1) c8)
  have B7 := Lib.hid hb7
  have F7 := Lib.hid fr7
  have K7 : Hid (KeptS (w6.setCell ⟨gb, 1, none⟩ (.slice A8 (N + 1) c8)) B (N + 1) (.slice AV (N + 1) cV) (addAt v N (.slice Ax lx.length cx)) (addAt l N lx)) := Lib.hid ⟨own_ch K5.out.outer ch57 (fun g hg => by
    simp only [List.mem_cons, List.not_mem_nil, or_false, not_or]
    exact ⟨fun e => own_ne K5.out.outer B5.out (by decide) (by rw [hg, e]), fun e => N5.out g hg e.symm⟩), fun i hi => own_frame (K5.out.own i hi) fr57 (by decide), K5.out.apart, K5.out.few⟩
  have U7 : Hid (KeptS (w6.setCell ⟨gb, 1, none⟩ (.slice A8 (N + 1) c8)) B (N + 1) (.slice A8 (N + 1) c8) (addAt u N (vs 6)) (addAt l N lx)) := by
    refine Lib.hid (Kept.snoc U5.out (own_grown ho6 (grown_set w6 gb 1 (.slice A8 (N + 1) c8)) (own_ne ho6 b6 (by decide))) (fun i hi => own_frame (U5.out.own i hi) fr57 (by decide)) (own_frame (own_less hx1 (by have := B5.out.lt; omega)) fr17 (by decide)) (fun i g hi hg e => ?_) hf)
    have h1 := (World.ownsRow.lt hx1 g e).1
    have h2 := (World.ownsRow.lt (U5.out.own i hi) g hg).2
    omega
  have N7 : Hid (∀ g, (Value.slice AV (N + 1) cV).ownBlock = some g → (Value.slice A8 (N + 1) c8).ownBlock ≠ some g) := Lib.hid fun g hg e => by
    rw [e8] at ha6
    rcases ha6 with h1 | h1
    · exact N5.out g hg (by rw [← h1, e])
    · have h2 := (World.ownsRow.lt K5.out.outer g hg).2
      rw [e] at h1
      have : g = w1.heap.size := by simpa using h1
      have := hs1.size
      omega
  have E8 := Lib.hid e8
  clear e8 hI6 hs1 hx1 ho6 hg6 b1 b6 U1 fr7 fr57 fr17 ch57 hb7
  intro KK hKK
  rw [E8.out]
  simp only [List.drop_succ_cons, List.drop_zero]
  go_wp2
  go_end0
  exact ⟨rfl, _, _, _, B7.out, K7.out, U7.out, N7.out, F7.out⟩
end Go.Proofs.YtemjipongehjlaaGreat
