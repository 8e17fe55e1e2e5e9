/- Parts, joined. -/
import Derived.Test.YtceafmknfkaedaaGreatDoorProg
import Derived.WalkKit
import Derived.WalkSpells
import Derived.WalkLawsBesides
import Derived.Lib.Hide
import Derived.Maps.RangeWalk
import Derived.Test.YtceafmknfkaedaaGreatDoorRk5
import Derived.Test.YtceafmknfkaedaaGreatDoorWays
import Derived.Lib.Builder
import Derived.Laws.Externs
import Derived.Test.YtceafmknfkaedaaGreatDoorShelf
import Derived.StringKeys
import Derived.Sort.KeysCollected
import Derived.Sort.OwnSorted
import Derived.RangeFuncBound
import Derived.Shelf.AbstractIn
/- kv.tooMuch: how long all keys and values of a map of texts are, in whatever order they come. No conditions but those stated. -/
namespace Go.Proofs.YtceafmknfkaedaaGreatDoor
set_option linter.unusedVariables false
open Go Go.RowKit Go.ChangeMaps
open Go.Proofs.YtceafmknfkaedaaGreatDoor.Rk (lenE sumE)
theorem sum_filter (e : MapEntry) : ∀ {l : List MapEntry}, (l.map (·.born)).Nodup → e ∈ l → sumE l = lenE e + sumE (l.filter fun x => !(x.born == e.born)) ∧ (l.filter fun x => !(x.born == e.born)).length < l.length
  | [], _, h => by cases h
  | x :: l, hn, h => by
    obtain ⟨h1, h2⟩ := List.nodup_cons.1 hn
    rcases List.mem_cons.1 h with rfl | h3
    · have hf : (l.filter fun y => !(y.born == e.born)) = l := List.filter_eq_self.2 (fun y hy => by
        have : y.born ≠ e.born := fun he => h1 (by show e.born ∈ _; rw [← he]; exact List.mem_map.2 ⟨y, hy, rfl⟩)
        simpa using this)
      simp [hf, sumE]
    · have hne : x.born ≠ e.born := fun he => h1 (by show x.born ∈ _; rw [he]; exact List.mem_map.2 ⟨e, h3, rfl⟩)
      obtain ⟨g1, g2⟩ := sum_filter e h2 h3
      have hb : (!(x.born == e.born)) = true := by simpa using hne
      rw [List.filter_cons, if_pos hb]
      simp only [sumE, List.map_cons, List.sum_cons, List.length_cons] at g1 ⊢
      exact ⟨by omega, by omega⟩
theorem left_push (es : Array MapEntry) (seen : Array Nat) (e : MapEntry) : (leftOf es (seen.push e.born)).toList = (leftOf es seen).toList.filter fun x => !(x.born == e.born) := by
  unfold leftOf
  rw [Array.toList_filter, Array.toList_filter, List.filter_filter]
  congr 1
  funext x
  rw [Array.contains_push]
  cases seen.contains x.born <;> cases h : x.born == e.born <;> simp_all
theorem left_nodup {es : Array MapEntry} (seen : Array Nat) (h : (es.toList.map (·.born)).Nodup) : ((leftOf es seen).toList.map (·.born)).Nodup := by
  unfold leftOf
  rw [Array.toList_filter]
  exact h.sublist ((List.filter_sublist).map _)
theorem left_mem {es : Array MapEntry} {seen : Array Nat} {e : MapEntry} (h : e ∈ (leftOf es seen).toList) : e ∈ es.toList := by
  unfold leftOf at h
  rw [Array.toList_filter] at h
  exact (List.mem_filter.1 h).1
theorem left_all (es : Array MapEntry) : (leftOf es #[]).toList = es.toList := by
  unfold leftOf
  rw [Array.toList_filter]
  exact List.filter_eq_self.2 (fun x _ => by simp)
/-- The tape may have been asked. -/
def Drawn (w w1 : World) : Prop := w1 = w ∨ w1 = w.drew
/-- An entry that is still to come. -/
def Comes (es : Array MapEntry) (seen : Array Nat) (e : MapEntry) : Prop := e ∈ (leftOf es seen).toList
section
variable {P : Program} (w : World) {ops : Array Oper} {rest : List Oper} {o : Oper} {a : Act} {Q : Exit → Act → World → Prop}
theorem wpList_range_raw (hg : o.guard = none) (m : Operand) (t k e : TypeId) (hop : o.op = Op.range t m) (ht : P.underlying t = some (.map k e)) (b clock : Nat) (es : Array MapEntry)
    (hm : a.eval m = .map (some b)) (hb : w.heap[b]? = some (.map es clock)) (hK : wpList P ops Q rest (a.put o.dst (.pointer (some ⟨w.heap.size, 0, none⟩))) (w.alloc (.mapIter (some b) clock #[] clock))) : wpList P ops Q (o :: rest) a w := by
  refine wpList_plain hg fun K' hK' => ?_
  unfold Oper.wp
  simp [execOp, hop, hm, run_range_map w t k e b es clock ht hb, Result.andThen]
  exact hK' _ _ hK
theorem wpList_next_raw (hg : o.guard = none) (it : Operand) (hop : o.op = Op.next it false) (b r clock : Nat) (seen : Array Nat) (es : Array MapEntry) (hit : a.eval it = .pointer (some ⟨r, 0, none⟩))
    (hr : w.heap[r]? = some (.mapIter (some b) clock seen clock)) (hb : w.heap[b]? = some (.map es clock)) (hold : ∀ x ∈ es.toList, x.born < clock)
    (hDone : (leftOf es seen).size = 0 → wpList P ops Q rest (a.put o.dst (.tuple #[.bool false])) w)
    (hMore : ∀ e, Comes es seen e → ∀ w1 : World, Drawn w w1 → wpList P ops Q rest (a.put o.dst (.tuple #[.bool true, e.key, e.val])) (setBlock w1 r (.mapIter (some b) clock (seen.push e.born) clock))) :
    wpList P ops Q (o :: rest) a w := by
  refine wpList_plain hg fun K' hK' => ?_
  unfold Oper.wp
  rcases run_next_at (P := P) w o.type r b clock clock seen es clock hr hb hold (Nat.le_refl _) with ⟨h0, hrun⟩ | ⟨e, he, w1, hw1, hrun⟩
  · simp [execOp, hop, hit, hrun, Result.andThen]
    exact hK' _ _ (hDone h0)
  · simp [execOp, hop, hit, hrun, Result.andThen]
    exact hK' _ _ (hMore e he w1 hw1)
end
/-- A map under way: nothing of what was there turns but the iterator. -/
structure Way (W : World) (b clock : Nat) (es : Array MapEntry) (seen : Array Nat) (w : World) : Prop where
  below : Below W.heap.size W w
  iter : w.heap[W.heap.size]? = some (.mapIter (some b) clock seen clock)
  map : w.heap[b]? = some (.map es clock)
theorem Way.start {W : World} {b clock : Nat} {es : Array MapEntry} (hb : W.heap[b]? = some (.map es clock)) : Way W b clock es #[] (W.alloc (.mapIter (some b) clock #[] clock)) := by
  have hlt : b < W.heap.size := (Array.getElem?_eq_some_iff.1 hb).1
  exact ⟨(Below.refl _ W).alloc (Nat.le_refl _) _, heap_alloc_new W _, by rw [heap_alloc_old W _ hlt]; exact hb⟩
theorem Way.step {W w w1 : World} {b clock : Nat} {es : Array MapEntry} {seen : Array Nat} (h : Way W b clock es seen w) (hb : b < W.heap.size) (hw : Drawn w w1) (n : Nat) : Way W b clock es (seen.push n) (setBlock w1 W.heap.size (.mapIter (some b) clock (seen.push n) clock)) := by
  have hlt := (Array.getElem?_eq_some_iff.1 h.iter).1
  have hs := h.below.size
  have key : ∀ w2 : World, w2.heap = w.heap → w2.os = w.os → w2.tape = w.tape → w2.output = w.output → Way W b clock es (seen.push n) (setBlock w2 W.heap.size (.mapIter (some b) clock (seen.push n) clock)) := by
    intro w2 e1 e2 e3 e4
    refine ⟨⟨e2.trans h.below.os, e3.trans h.below.tape, e4.trans h.below.output, ?_, fun B hB => ?_⟩, ?_, ?_⟩
    · simp [setBlock, e1]; exact hs
    · have : W.heap.size ≠ B := by omega
      simp [setBlock, e1, this]
      exact h.below.block B hB
    · simp [setBlock, e1, hlt]
    · have : W.heap.size ≠ b := by omega
      simp [setBlock, e1, this]
      exact h.map
  rcases hw with rfl | rfl
  · exact key w1 rfl rfl rfl rfl
  · exact key _ rfl rfl rfl rfl
set_option maxRecDepth 100000 in
set_option maxHeartbeats 1000000 in
theorem tooMuch_any (b clock : Nat) (es : Array MapEntry) (w : World) (hb : w.heap[b]? = some (.map es clock)) (hold : ∀ x ∈ es.toList, x.born < clock) (hn : (es.toList.map (·.born)).Nodup)
    (hstr : ∀ x ∈ es.toList, ∃ k v, x.key = .string k ∧ x.val = .string v) (hsum : sumE es.toList ≤ 1000000000) :
    Calls Tryz.prog 165 #[.map (some b)] w fun e w' => e = .returned (.bool (decide (500000 < sumE es.toList))) ∧ Below w.heap.size w w' := by
  have hlt : b < w.heap.size := (Array.getElem?_eq_some_iff.1 hb).1
  go_enter Tryz.func165, Tryz.ntmps165
  go_wp2_with (first
    | (at_range; refine wpList_range_raw _ rfl _ _ _ _ rfl Tryz.underlying228 b clock es rfl hb ?_)
    | go_in)
  go_frame
  go_loopw [3] (fun x wr => ∃ (seen : Array Nat) (n : Nat), x = .int .i64 n ∧ Way w b clock es seen wr ∧ n + sumE (leftOf es seen).toList = sumE es.toList)
    (fun _ wr => wr.rangeLeft b w.heap.size)
  case atStart => exact ⟨#[], 0, rfl, Way.start hb, by rw [left_all, Nat.zero_add]⟩
  case round =>
    obtain ⟨seen, n, rfl, hW, hs⟩ := hrel
    have hbel := hW.below
    have hiter := hW.iter
    have hmap := hW.map
    go_wp2_with (first
      | (at_next; refine wpList_next_raw _ rfl _ rfl b w.heap.size clock seen es rfl hiter hmap hold ?_ ?_)
      | go_in)
    · intro h0
      have hz : (leftOf es seen).toList = [] := by
        rw [h0]
      rw [hz] at hs
      have hns : n = sumE es.toList := by simpa [sumE] using hs
      go_wp2
      go_ret
      refine ⟨?_, hbel⟩
      rw [← hns]
      show Ending.returned (Value.bool (decide ((500000 : Int) < (n : Int)))) = .returned (.bool (decide (500000 < n)))
      rw [decide_eq_decide.2 (by omega : ((500000 : Int) < (n : Int)) ↔ 500000 < n)]
    · intro e he w1 hw1
      have hem := left_mem he
      obtain ⟨k, v, hk, hv⟩ := hstr e hem
      obtain ⟨g1, g2⟩ := sum_filter e (left_nodup seen hn) he
      rw [← left_push] at g1 g2
      have hW2 := hW.step hlt hw1 e.born
      have hle : lenE e = k.size + v.size := by unfold lenE; rw [hk, hv]
      have hen := run_entry_at (P := Tryz.prog) _ w.heap.size b clock seen es clock e hW2.iter hW2.map hem hn
      have hbel2 := hW2.below
      have hit2 := hW2.iter
      have hmp2 := hW2.map
      rw [hk, hv] at hen
      rw [hk, hv]
      generalize setBlock w1 w.heap.size (.mapIter (some b) clock (seen.push e.born) clock) = w2 at hW2 hen hbel2 hit2 hmp2
      have hb1 : k.size + v.size + n ≤ 1000000000 := by omega
      go_wp2
      go_roundw
      case rel => exact ⟨seen.push e.born, n + (k.size + v.size), by first | rfl | (push_cast; rfl), hW2, by omega⟩
      case measure =>
        simp only [World.rangeLeft, hmp2, hit2, hmap, hiter]
        rw [← Array.length_toList, ← Array.length_toList]
        exact g2
end Go.Proofs.YtceafmknfkaedaaGreatDoor

/- path.sealed: a map of its own that holds the two places, in an order that the tape tells. No conditions. -/
namespace Go.Proofs.YtceafmknfkaedaaGreatDoor
set_option linter.unusedVariables false
open Go Go.RowKit Go.Proofs.YtceafmknfkaedaaGreatDoor.Rk
theorem stepF_run {P : Program} {ops : Array Oper} {o : Oper} {a : Act} {w w' : World} {v : Value} {K : Value → World → Prop} (hg : o.guard = none) (hr : (execOp a.eval o).run P w = .ok (.value v) w') (hK : K v w') : stepF P ops o a w K := by
  unfold stepF
  have hw : Region.wanted o (yielded ops a.tmps) = true := by simp [Region.wanted, hg]
  rw [if_pos hw, hr]
  exact hK
theorem stepF_skip {P : Program} {ops : Array Oper} {o : Oper} {a : Act} {w w' : World} {K : Value → World → Prop} (hg : o.guard = none) (hr : (execOp a.eval o).run P w = .ok .skip w') (hK : K undef w') : stepF P ops o a w K := by
  unfold stepF
  have hw : Region.wanted o (yielded ops a.tmps) = true := by simp [Region.wanted, hg]
  rw [if_pos hw, hr]
  exact hK
def msh : ByteArray := ⟨#[77, 83, 72]⟩
def placeV (n : Int) : Value := .agg #[.string msh, .int .i64 0, .int .i64 n, .int .i64 0, .int .i64 0, .int .i64 0]
def placeA (n : Int) : AV := .agg [.str [77, 83, 72], .int .i64 0, .int .i64 n, .int .i64 0, .int .i64 0, .int .i64 0]
theorem place_ok (n : Int) : VR (fun _ => none) (placeA n) (placeV n) := .agg _ _ (.cons _ _ _ _ (.str [77, 83, 72] (by decide)) (.cons _ _ _ _ (.int _ _) (.cons _ _ _ _ (.int _ _) (.cons _ _ _ _ (.int _ _) (.cons _ _ _ _ (.int _ _) (.cons _ _ _ _ (.int _ _) .nil))))))
theorem put_run {P : Program} {w : World} {t kt et : TypeId} {d : TypeDesc} {b clock : Nat} {l : Array MapEntry} {es : List ME} {k : AV} {k' x' : Value} (hu : P.underlying t = some (.map kt et)) (hd : P.underlying kt = some d) (hk : keyOk P kt d k = true) (hkk : VR (fun _ => none) k k')
    (hb : w.heap[b]? = some (.map l clock)) (hm : MR (fun _ => none) es l.toList) (hf : findK k es 0 = some none) :
    (Instr.mapUpdate t (.map (some b)) k' x').run P w = .ok () { w with heap := w.heap.setIfInBounds b (.map (l.push { key := k', val := x', born := clock }) (clock + 1)) } := by
  rcases findK_ok hd hk hkk w 0 hm hf with ⟨_, h3⟩ | ⟨j', v', e', h2, _⟩
  · unfold Instr.mapUpdate
    rw [Sem.run_bind, run_underlying hu]
    simp only [Result.andThen_ok, Sem.run_bind, MapKept.run_getObj_map hb, run_ck hd hk hkk, run_fk hd h3, setObj_run hb]
  · cases h2
def ent (n : Int) (k : Nat) : MapEntry := { key := placeV n, val := .agg #[], born := k }
/-- What the region has made, when the operations in L have run. -/
structure SealI (W : World) (L : Nat → Bool) (vs : Nat → Value) (w : World) : Prop where
  os : w.os = W.os
  tape : w.tape = W.tape
  output : w.output = W.output
  no : L 0 = false → w.heap = W.heap
  yes : L 0 = true → ∃ l c, w.heap = W.heap.push (.map l c) ∧ (L 3 = false → L 6 = false → l = #[] ∧ c = 0) ∧ (L 3 = true → L 6 = false → l = #[ent 1 0] ∧ c = 1) ∧ (L 3 = false → L 6 = true → l = #[ent 2 0] ∧ c = 1) ∧ (L 3 = true → L 6 = true → c = 2 ∧ (l = #[ent 1 0, ent 2 1] ∨ l = #[ent 2 0, ent 1 1]))
theorem SealI.pure {W w : World} {L : Nat → Bool} {vs vs' : Nat → Value} (h : SealI W L vs w) {i : Nat} (h0 : i ≠ 0) (h3 : i ≠ 3) (h6 : i ≠ 6) : SealI W (upd L i) vs' w := by
  refine ⟨h.os, h.tape, h.output, ?_, ?_⟩ <;> simp only [updN (Ne.symm h0), updN (Ne.symm h3), updN (Ne.symm h6)]
  · exact h.no
  · exact h.yes
theorem mr1 (n : Int) (k : Nat) : MR (fun _ => none) [⟨placeA n, .agg [], k⟩] [ent n k] := MR.nil.cons (place_ok n) (.agg _ _ .nil) rfl
theorem push_set {w wx : World} {x : Obj} (o : Obj) (n : Nat) (hn : n = w.heap.size) (hh : wx.heap = w.heap.push x) : wx.heap.setIfInBounds n o = w.heap.push o := by
  rw [hh, hn]
  apply Array.ext_getElem?
  intro i
  rw [Array.getElem?_setIfInBounds, Array.getElem?_push, Array.getElem?_push]
  by_cases hi : w.heap.size = i
  · subst hi
    simp
  · simp [hi, Ne.symm hi]
theorem ins_skip {P : Program} {a : Act} {o : Oper} {t : TypeId} {m k x : Operand} {w w' : World} (hr : (Instr.mapUpdate t (a.eval m) (a.eval k) (a.eval x)).run P w = .ok () w') (ho : o.op = .insert t m k x) : (execOp a.eval o).run P w = .ok .skip w' := by
  unfold execOp
  rw [ho]
  simp only [Sem.run_bind, hr, Result.andThen_ok, Sem.run_pure]
set_option maxRecDepth 100000 in
set_option maxHeartbeats 1000000 in
theorem sealed_any (w : World) : Calls Tryz.prog 648 #[] w fun e w' => e = .returned (.map (some w.heap.size)) ∧ ∃ l, Add w w' (.map l 2) ∧ (l = #[ent 1 0, ent 2 1] ∨ l = #[ent 2 0, ent 1 1]) := by
  go_enter Tryz.func648, Tryz.ntmps648
  go_wp2_with fail
  have hk1 : keyOk Tryz.prog 333 (.struct (Tryz.prog.fieldsOf 333)) (placeA 1) = true := by kernel_rfl
  have hk2 : keyOk Tryz.prog 333 (.struct (Tryz.prog.fieldsOf 333)) (placeA 2) = true := by kernel_rfl
  have hd : Tryz.prog.underlying 333 = some (.struct (Tryz.prog.fieldsOf 333)) := by kernel_rfl
  have hu : Tryz.prog.underlying 656 = some (.map 333 116) := by kernel_rfl
  refine wp_region_genC 7 [] (SealI w) (by kernel_rfl) (by kernel_rfl) ⟨rfl, rfl, rfl, fun _ => rfl, fun h => (by cases h)⟩ ?_
  refine wpGenC_pure (v := .map (some w.heap.size)) rfl ?_ ?_
  · intro L vs wx hI hCl hR hL K hK
    have hh := hI.no hL
    have l3 : L 3 = false := hCl.off hL (by kernel_rfl)
    have l6 : L 6 = false := hCl.off hL (by kernel_rfl)
    refine stepF_run rfl (w' := { wx with heap := wx.heap.push (.map #[] 0) }) (by rw [← hh]; rfl) (hK _ ⟨hI.os, hI.tape, hI.output, fun h => (by rw [updS] at h; cases h), fun _ => ⟨#[], 0, (by show wx.heap.push _ = _; rw [hh]), ?_⟩⟩)
    simp only [updN (show (3 : Nat) ≠ 0 by decide), updN (show (6 : Nat) ≠ 0 by decide), l3, l6]
    simp
  intro KK hKK
  go_simp
  refine hKK _ ?_
  refine wpGenC_pure (v := placeV 1) rfl (fun L vs wx hI hCl hR hL K hK => stepF_run rfl (by kernel_rfl) (hK _ (hI.pure (by decide) (by decide) (by decide)))) ?_
  intro KK hKK
  go_simp
  refine hKK _ ?_
  refine wpGenC_pure (v := .agg #[]) rfl (fun L vs wx hI hCl hR hL K hK => stepF_run rfl (by kernel_rfl) (hK _ (hI.pure (by decide) (by decide) (by decide)))) ?_
  intro KK hKK
  go_simp
  refine hKK _ ?_
  refine wpGenC_pure (v := undef) rfl ?_ ?_
  · intro L vs wx hI hCl hR hL K hK
    have l0 : L 0 = true := hR 0 (by kernel_rfl)
    obtain ⟨l, c, hh, y1, y2, y3, y4⟩ := hI.yes l0
    have hb : wx.heap[w.heap.size]? = some (.map l c) := by rw [hh]; simp
    have hset : ∀ o, wx.heap.setIfInBounds w.heap.size o = w.heap.push o := fun o => push_set _ _ rfl hh
    cases h6 : L 6 with
    | false =>
      obtain ⟨rfl, rfl⟩ := y1 hL h6
      have hr := put_run (x' := .agg #[]) hu hd hk1 (place_ok 1) hb .nil rfl
      refine stepF_skip rfl (w' := { wx with heap := wx.heap.setIfInBounds w.heap.size (.map #[ent 1 0] 1) }) ?_ (hK _ ⟨hI.os, hI.tape, hI.output, fun h => (by rw [updN (by decide)] at h; rw [l0] at h; cases h), fun _ => ⟨#[ent 1 0], 1, hset _, ?_⟩⟩)
      · exact ins_skip (m := .tmp 1) hr rfl
      · simp only [updS, updN (show (6 : Nat) ≠ 3 by decide), h6]
        simp
    | true =>
      obtain ⟨rfl, rfl⟩ := y3 hL h6
      have hr := put_run (x' := .agg #[]) hu hd hk1 (place_ok 1) hb (mr1 2 0) (by kernel_rfl)
      refine stepF_skip rfl (w' := { wx with heap := wx.heap.setIfInBounds w.heap.size (.map #[ent 2 0, ent 1 1] 2) }) ?_ (hK _ ⟨hI.os, hI.tape, hI.output, fun h => (by rw [updN (by decide)] at h; rw [l0] at h; cases h), fun _ => ⟨#[ent 2 0, ent 1 1], 2, hset _, ?_⟩⟩)
      · exact ins_skip (m := .tmp 1) hr rfl
      · simp only [updS, updN (show (6 : Nat) ≠ 3 by decide), h6]
        simp
  intro KK hKK
  go_simp
  refine hKK _ ?_
  refine wpGenC_pure (v := placeV 2) rfl (fun L vs wx hI hCl hR hL K hK => stepF_run rfl (by kernel_rfl) (hK _ (hI.pure (by decide) (by decide) (by decide)))) ?_
  intro KK hKK
  go_simp
  refine hKK _ ?_
  refine wpGenC_pure (v := .agg #[]) rfl (fun L vs wx hI hCl hR hL K hK => stepF_run rfl (by kernel_rfl) (hK _ (hI.pure (by decide) (by decide) (by decide)))) ?_
  intro KK hKK
  go_simp
  refine hKK _ ?_
  refine wpGenC_pure (v := undef) rfl ?_ ?_
  · intro L vs wx hI hCl hR hL K hK
    have l0 : L 0 = true := hR 0 (by kernel_rfl)
    obtain ⟨l, c, hh, y1, y2, y3, y4⟩ := hI.yes l0
    have hb : wx.heap[w.heap.size]? = some (.map l c) := by rw [hh]; simp
    have hset : ∀ o, wx.heap.setIfInBounds w.heap.size o = w.heap.push o := fun o => push_set _ _ rfl hh
    cases h3 : L 3 with
    | false =>
      obtain ⟨rfl, rfl⟩ := y1 h3 hL
      have hr := put_run (x' := .agg #[]) hu hd hk2 (place_ok 2) hb .nil rfl
      refine stepF_skip rfl (w' := { wx with heap := wx.heap.setIfInBounds w.heap.size (.map #[ent 2 0] 1) }) ?_ (hK _ ⟨hI.os, hI.tape, hI.output, fun h => (by rw [updN (by decide)] at h; rw [l0] at h; cases h), fun _ => ⟨#[ent 2 0], 1, hset _, ?_⟩⟩)
      · exact ins_skip (m := .tmp 1) hr rfl
      · simp only [updS, updN (show (3 : Nat) ≠ 6 by decide), h3]
        simp
    | true =>
      obtain ⟨rfl, rfl⟩ := y2 h3 hL
      have hr := put_run (x' := .agg #[]) hu hd hk2 (place_ok 2) hb (mr1 1 0) (by kernel_rfl)
      refine stepF_skip rfl (w' := { wx with heap := wx.heap.setIfInBounds w.heap.size (.map #[ent 1 0, ent 2 1] 2) }) ?_ (hK _ ⟨hI.os, hI.tape, hI.output, fun h => (by rw [updN (by decide)] at h; rw [l0] at h; cases h), fun _ => ⟨#[ent 1 0, ent 2 1], 2, hset _, ?_⟩⟩)
      · exact ins_skip (m := .tmp 1) hr rfl
      · simp only [updS, updN (show (3 : Nat) ≠ 6 by decide), h3]
        simp
  intro KK hKK
  go_simp
  refine hKK _ ?_
  refine wpGenC_nil ?_
  intro vs wx hI
  obtain ⟨l, c, hh, _, _, _, y4⟩ := hI.yes rfl
  obtain ⟨rfl, hl⟩ := y4 rfl rfl
  have hA : Add w wx (.map l 2) := ⟨hI.os, hI.tape, hI.output, by rw [hh]; simp, by rw [hh]; simp, fun B hB => by rw [hh, Array.getElem?_push_lt hB, Array.getElem?_eq_getElem hB]⟩
  intro K2 hK2
  go_wp2
  go_ret
  exact ⟨rfl, l, hA, hl⟩
end Go.Proofs.YtceafmknfkaedaaGreatDoor

/- (*strings.Builder).copyCheck at a Builder that begins a block of its own or another's: the first time it stores its own address. -/
namespace Go.Proofs.YtceafmknfkaedaaGreatDoor
set_option linter.unusedVariables false
open Go Go.RowKit
set_option maxHeartbeats 1000000 in
set_option maxRecDepth 100000 in
theorem check_used (b : Nat) (w : World) (h0 : w.cell? ⟨b, 0, none⟩ = some (.pointer (some ⟨b, 0, none⟩))) :
    Calls Tryz.prog 339 #[.pointer (some ⟨b, 0, none⟩)] w fun e w' => e = .returned (.tuple #[]) ∧ w' = w := by
  obtain ⟨j, hj, hjs⟩ : ∃ j, Tryz.prog.info? 260 = some j ∧ j.size = 2 := Option.map_eq_some_iff.1 (show (Tryz.prog.info? 260).map (·.size) = some 2 by kernel_rfl)
  go_enter Tryz.func339, Tryz.ntmps339
  go_wp2
  rw [Lib.run_neq_ptr_same w _ Tryz.underlying258 hj]
  go_wp2
  go_end0
  exact ⟨rfl, rfl⟩
set_option maxHeartbeats 1000000 in
set_option maxRecDepth 100000 in
theorem check_fresh (tw n : Nat) (hn : 0 < n) (hlies : liesAt Tryz.prog Tryz.prog.depth tw (n / Tryz.prog.cellsOf tw) 0 260 1 = true) (b : Nat) (w : World) (h0 : w.cell? ⟨b, 0, none⟩ = some (.pointer none)) (hsh : w.shape? b = some (tw, n)) (hfz : w.frozen? ⟨b, 0, none⟩ = false) :
    Calls Tryz.prog 339 #[.pointer (some ⟨b, 0, none⟩)] w fun e w' => e = .returned (.tuple #[]) ∧ w' = w.setCell ⟨b, 0, none⟩ (.pointer (some ⟨b, 0, none⟩)) := by
  obtain ⟨j, hj, hjs⟩ : ∃ j, Tryz.prog.info? 260 = some j ∧ j.size = 2 := Option.map_eq_some_iff.1 (show (Tryz.prog.info? 260).map (·.size) = some 2 by kernel_rfl)
  go_enter Tryz.func339, Tryz.ntmps339
  go_wp2
  rw [Lib.run_to_unsafe w ⟨b, 0, none⟩ Tryz.underlying258 Tryz.underlying517 hj (by rw [hjs]; decide) hsh hn]
  simp only [Result.andThen]
  rw [Oper.upon_value]
  go_wp2
  rw [run_callFunc_extern Tryz.func458 (by kernel_rfl) (by kernel_rfl) (by kernel_rfl) (e := Extern.AbiNoEscape.same) (by kernel_rfl)]
  rw [Lib.run_noEscape]
  simp only [Result.andThen]
  rw [Oper.upon_value]
  go_wp2
  rw [Lib.run_from_unsafe w ⟨b, 0, none⟩ Tryz.underlying517 Tryz.underlying258 hj hsh hlies]
  simp only [Result.andThen]
  rw [Oper.upon_value]
  go_wp2
  go_end0
  exact ⟨rfl, rfl⟩
theorem check_fresh_any (p : TypeId × Nat) (hp : p ∈ [(260, 2), (262, 3), (356, 2)]) (b : Nat) (w : World) (h0 : w.cell? ⟨b, 0, none⟩ = some (.pointer none)) (hsh : w.shape? b = some (p.1, p.2)) (hfz : w.frozen? ⟨b, 0, none⟩ = false) :
    Calls Tryz.prog 339 #[.pointer (some ⟨b, 0, none⟩)] w fun e w' => e = .returned (.tuple #[]) ∧ w' = w.setCell ⟨b, 0, none⟩ (.pointer (some ⟨b, 0, none⟩)) := by
  simp only [List.mem_cons, List.mem_nil_iff, or_false] at hp
  rcases hp with rfl | rfl | rfl
  · exact check_fresh 260 2 (by decide) (by kernel_rfl) b w h0 hsh hfz
  · exact check_fresh 262 3 (by decide) (by kernel_rfl) b w h0 hsh hfz
  · exact check_fresh 356 2 (by decide) (by kernel_rfl) b w h0 hsh hfz
end Go.Proofs.YtceafmknfkaedaaGreatDoor

/- slices.SortedFunc over maps.Keys, by bits.Compare: the keys of a map of texts, sorted. No conditions but those stated. -/
namespace Go.Proofs.YtceafmknfkaedaaGreatDoor
set_option linter.unusedVariables false
open Go Go.RowKit Go.Maps Go.Sort Go.Shelf Go.Proofs
open Go.WideElems (Fit rd rg rd_key rg_of)
noncomputable def rdAny : Value → Option (DataW Unit × List MemPlace) := fun _ => some (.nil, [])
noncomputable def keyL (x : MapEntry) : List UInt8 := match x.key with
  | .string k => k.data.toList
  | _ => []
noncomputable def datOf (es : Array MapEntry) : DataW Unit := .map ((es.toList.map (rg Tryz.prog 9 rdAny)).foldr DataW.insert [])
theorem rd_any {x : MapEntry} {k : ByteArray} (hk : x.key = .string k) (hs : k.size ≤ 1000000) : rd Tryz.prog 9 rdAny x = some (.string k.data.toList, .nil) := by
  unfold Go.WideElems.rd
  rw [hk, Go.WideMaps.keyOf_string_mk Tryz.underlying9 (by unfold maxLen; omega)]
  rfl
section
variable {b clock : Nat} {es : Array MapEntry} {w : World}
theorem owns_any (hb : w.heap[b]? = some (.map es clock)) (hold : ∀ x ∈ es.toList, x.born < clock) (hn : (es.toList.map (·.born)).Nodup) (hstr : ∀ x ∈ es.toList, ∃ k, x.key = .string k ∧ k.size ≤ 1000000) (hk : (es.toList.map (·.key)).Nodup) (hs : es.size ≤ 1000000) :
    w.ownsMap Tryz.prog 9 rdAny b es.size (datOf es) :=
  ⟨es, clock, hb, ⟨by unfold maxLen; omega, ⟨hold, hn, hk⟩, fun x hx => by
    obtain ⟨k, h1, h2⟩ := hstr x hx
    exact ⟨_, rd_any h1 h2⟩⟩, Nat.le_refl _, rfl⟩
set_option maxRecDepth 100000 in
theorem keys_perm (hstr : ∀ x ∈ es.toList, ∃ k, x.key = .string k ∧ k.size ≤ 1000000) : (strKeys (datOf es)).Perm (es.toList.map keyL) := by
  show (List.map (fun p : Lit × DataW Unit => strOf p.1) ((es.toList.map (rg Tryz.prog 9 rdAny)).foldr DataW.insert [])).Perm _
  have h1 := (Go.WideShapes.sorted_perm (es.toList.map (rg Tryz.prog 9 rdAny))).map fun p : Lit × DataW Unit => strOf p.1
  refine h1.trans (List.Perm.of_eq ?_)
  rw [List.map_map]
  refine List.map_congr_left (fun x hx => ?_)
  obtain ⟨k, h1, h2⟩ := hstr x hx
  show strOf (rg Tryz.prog 9 rdAny x).1 = keyL x
  rw [rg_of (rd_any h1 h2)]
  unfold keyL
  rw [h1]
  rfl
theorem size_dat : Maps.size (datOf es) = es.size := by
  unfold datOf Maps.size
  simp [length_sorted]
end
set_option maxRecDepth 100000 in
theorem cmp_any (x y : ByteArray) (w : World) : Calls Tryz.prog 73 #[.string x, .string y] w fun e w' => e = .returned (.int .i64 (Lib.compareBytes x.data.toList y.data.toList)) ∧ w' = w := by
  go_enter Tryz.func73, Tryz.ntmps73
  go_wp2_with (go_at_call 133; refine (Tryz.strings_Compare x y w).mono ?_; rintro e w' ⟨rfl, rfl⟩)
  go_ret
  exact ⟨rfl, rfl⟩
theorem cmp_reads (blk off size : Nat) (w : World) : CmpReads Tryz.prog 73 #[] encStr Lib.compareBytes blk off size w := fun m os dk _ x y =>
  (cmp_any ⟨x.toArray⟩ ⟨y.toArray⟩ _).mono fun e w' ⟨h1, h2⟩ => ⟨h1, 0, h2⟩
theorem cmp_nat (x y : List UInt8) : Lib.compareBytes x y = Rk.cmpA (x.map UInt8.toNat) (y.map UInt8.toNat) := by
  have := Rk.cmp_toA ⟨x.toArray⟩ ⟨y.toArray⟩
  simpa [Rk.toA] using this
theorem cmpA_neg : ∀ x y : List Nat, Rk.cmpA y x = - Rk.cmpA x y
  | [], [] => rfl
  | [], _ :: _ => rfl
  | _ :: _, [] => rfl
  | a :: x, b :: y => by
    unfold Rk.cmpA
    rcases Nat.lt_trichotomy a b with h | h | h
    · simp [h, Nat.lt_asymm h]
    · subst h; simpa using cmpA_neg x y
    · simp [h, Nat.lt_asymm h]
theorem lt_iff (x y : List UInt8) : ltOf Lib.compareBytes x y = true ↔ ¬ Rk.cmpA (y.map UInt8.toNat) (x.map UInt8.toNat) ≤ 0 := by
  unfold ltOf
  rw [decide_eq_true_eq, cmp_nat, cmpA_neg (x.map _) (y.map _)]
  omega
theorem lt_false (x y : List UInt8) : ltOf Lib.compareBytes x y = false ↔ Rk.cmpA (y.map UInt8.toNat) (x.map UInt8.toNat) ≤ 0 := by
  have := lt_iff x y
  cases h : ltOf Lib.compareBytes x y
  · rw [h] at this
    simpa using this
  · rw [h] at this
    simpa using this
theorem swo : SWO (ltOf Lib.compareBytes) where
  irrefl x := (lt_false x x).2 (by rw [Rk.cmpA_refl]; exact Int.le_refl _)
  trans x y z h1 h2 := (lt_iff x z).2 fun h => by
    have h3 := (lt_iff x y).1 h1
    have h4 := (lt_iff y z).1 h2
    rcases Rk.cmpA_le_total (x.map UInt8.toNat) (y.map UInt8.toNat) with h5 | h5
    · exact h4 (Rk.cmpA_le_trans _ _ _ h h5)
    · exact h3 h5
  ntrans x y z h1 h2 := (lt_false x z).2 (Rk.cmpA_le_trans _ _ _ ((lt_false y z).1 h2) ((lt_false x y).1 h1))
theorem toNat_inj : ∀ {x y : List UInt8}, x.map UInt8.toNat = y.map UInt8.toNat → x = y := fun {x y} h => List.map_inj_right (fun a b h => UInt8.toNat_inj.1 h) |>.1 h
theorem tot (x y : List UInt8) (h1 : ltOf Lib.compareBytes x y = false) (h2 : ltOf Lib.compareBytes y x = false) : x = y :=
  toNat_inj (Rk.cmpA_le_antisymm _ _ ((lt_false y x).1 h2) ((lt_false x y).1 h1))
abbrev sorted_ (ss : List (List UInt8)) : List (List UInt8) := ss.mergeSort fun x y => !ltOf Lib.compareBytes y x
theorem sorted_pair (ss : List (List UInt8)) : (sorted_ ss).Pairwise fun a b => Lib.compareBytes a b ≤ 0 := by
  have h : (sorted_ ss).Pairwise fun a b => (!ltOf Lib.compareBytes b a) = true := List.pairwise_mergeSort (fun a b c h1 h2 => by
    simp only [Bool.not_eq_true'] at h1 h2 ⊢
    exact swo.ntrans c b a h2 h1) (fun a b => by
    simp only [Bool.or_eq_true, Bool.not_eq_true']
    rcases Rk.cmpA_le_total (a.map UInt8.toNat) (b.map UInt8.toNat) with h | h
    · exact .inl ((lt_false b a).2 h)
    · exact .inr ((lt_false a b).2 h)) ss
  refine h.imp (fun {a b} hab => ?_)
  rw [cmp_nat]
  exact (lt_false b a).1 (by simpa using hab)
set_option maxRecDepth 100000 in
set_option maxHeartbeats 2000000 in
theorem sorted_gen (g : Nat) (eg : ∀ args w, (callFunc g args).run Tryz.prog w = .ok (.enter g args) w) (bm N : Nat) (K : List (List UInt8)) (w : World) (hN : N ≤ 1000000)
    (hseq : SeqGives Fence.wide 3 Tryz.prog g #[.pointer (some ⟨bm, 0, none⟩)] encStr (fun ss => ss.Perm K) N w) :
    CallsIn Fence.wide 6 Tryz.prog 71 #[.func (.func g) #[] #[.pointer (some ⟨bm, 0, none⟩)], .func (.func 73) #[] #[]] w fun e w' => Below w.heap.size w w' ∧ ∃ ss : List (List UInt8), ss.Perm K ∧ ss.Pairwise (fun a b => Lib.compareBytes a b ≤ 0) ∧
      ((ss = [] ∧ e = .returned (.slice none 0 0)) ∨ (ss ≠ [] ∧ ∃ gb cap cur, e = .returned (.slice (some ⟨gb, 0, none⟩) ss.length cap) ∧ w.heap.size ≤ gb ∧ w'.heap[gb]? = some (.cells cur 9 (0, 0)) ∧ ss.length ≤ cap ∧ cap ≤ cur.size ∧ ∀ (j : Nat) x, ss[j]? = some x → cur[j]? = some (encStr x))) := by
  have cC := AnyZ.collect_in Tryz.coA Fence.wide 5 trivial trivial rfl (by omega) g #[.pointer (some ⟨bm, 0, none⟩)] trivial eg _ _ (by unfold maxLen; omega) (by omega) w hseq.bounded
  change CallsIn _ _ Tryz.prog 130 _ _ _ at cC
  have e130 : Fence.wide.fn 130 := trivial
  have e131 : Fence.wide.fn 131 := trivial
  refine callsIn_of_wp Tryz.func71 rfl trivial ?_ rfl
  simp only [Tryz.ntmps71, List.size_toArray, List.length_cons, List.length_nil, Nat.reduceAdd, Nat.reduceSub, Array.replicate_succ, Array.replicate_zero, List.push_toArray, List.append_toArray, List.nil_append, List.cons_append]
  gi_wp2_with (gi_at_call 130; refine cC.mono ?_; rintro e W ⟨v, ss, rfl, ⟨hS, hlen⟩, hrow, hnil, hb⟩)
  rcases hrow.2 with ⟨rfl, hz⟩ | ⟨gb, cap, cur, rfl, hbase, hgb, r1, r2, r3, r4⟩
  · have hss : ss = [] := List.eq_nil_of_length_eq_zero hz
    subst hss
    have cS := callsIn_wide (n := 5).2 (AnyF.slices_SortFunc_none { Tryz.soA with } none 0 (.func (.func 73) #[] #[]) W)
    change CallsIn _ _ Tryz.prog 131 _ _ _ at cS
    gi_wp2_with (gi_at_call 131; refine cS.mono ?_; rintro e w' ⟨rfl, rfl⟩)
    go_ret
    exact ⟨hb, [], hS, List.Pairwise.nil, .inl ⟨rfl, rfl⟩⟩
  · have hH : Holds encStr W gb 0 ss.toArray := holds_of_block hgb (by simpa using r4)
    have hgl : gb < W.heap.size := (Array.getElem?_eq_some_iff.1 hgb).1
    have hsz : ss.toArray.size < 4611686018427387904 := by simp only [List.size_toArray]; omega
    have cS := callsIn_wide (n := 5).2 (Any.slices_SortFunc_total Tryz.soA encStr (fun _ => rfl) Lib.compareBytes swo 73 #[] gb 0 cap ss.toArray W (enters_of Tryz.func73 (by kernel_rfl) rfl) (cmp_reads gb 0 ss.toArray.size W).lays hH hgl hsz tot)
    change CallsIn _ _ Tryz.prog 131 _ _ _ at cS
    simp only [List.size_toArray] at cS
    gi_wp2_with (gi_at_call 131; refine cS.mono ?_; rintro e w' ⟨rfl, nn, os, rfl⟩)
    go_ret
    have hown := ownsRow_sorted (ts := sorted_ ss) (os := os) (n := nn) (by simp [sorted_]) hbase hgb r1 r2 r3
    have hrc := hown.2
    have hlen2 : (sorted_ ss).length = ss.length := by simp [sorted_]
    have hb2 : Below w.heap.size w (sortWorld encStr W gb 0 nn (sorted_ ss).toArray os) := hb.grown (grownBy_sorted _) hb.size (fun j hj => by cases hj; exact hbase)
    have hperm : (sorted_ ss).Perm ss := List.mergeSort_perm ss _
    refine ⟨hb2, sorted_ ss, hperm.trans hS, sorted_pair ss, ?_⟩
    have hne : ss ≠ [] := fun h => by have := hnil.2 h; cases this
    refine .inr ⟨fun h => hne (by have := hperm; rw [h] at this; exact this.nil_eq.symm), gb, cap, ?_⟩
    rcases hrc with ⟨h1, _⟩ | ⟨g2, cap2, cur2, h1, h2, h3, h4, h5, h6, h7⟩
    · cases h1
    · cases h1
      refine ⟨cur2, by rw [hlen2]; rfl, hbase, h3, by rw [hlen2]; exact r1, by omega, fun j x hx => ?_⟩
      have h8 : (cur2.toList.take (ss.length * 1))[j]? = ((sorted_ ss).map encStr)[j]? := by rw [h7]
      have hj : j < ss.length := by rw [← hlen2]; exact (List.getElem?_eq_some_iff.1 hx).1
      rw [List.getElem?_take_of_lt (by omega), List.getElem?_map, hx, Array.getElem?_toList] at h8
      exact h8
theorem sorted_told (g : Nat) (eg : ∀ args w, (callFunc g args).run Tryz.prog w = .ok (.enter g args) w)
    (hgen : ∀ (bm b nn : Nat) (D : DataW Unit) (w : World), bm < w.heap.size → w.cell? ⟨bm, 0, none⟩ = some (.map (some b)) → w.ownsMap Tryz.prog 9 rdAny b nn D → SeqGives Fence.wide 3 Tryz.prog g #[.pointer (some ⟨bm, 0, none⟩)] encStr (fun ss => ss.Perm (strKeys D)) (Maps.size D) w)
    (bm b clock : Nat) (es : Array MapEntry) (w : World) (hm : w.cell? ⟨bm, 0, none⟩ = some (.map (some b))) (hb : w.heap[b]? = some (.map es clock)) (hold : ∀ x ∈ es.toList, x.born < clock) (hn : (es.toList.map (·.born)).Nodup) (hstr : ∀ x ∈ es.toList, ∃ k, x.key = .string k ∧ k.size ≤ 1000000) (hk : (es.toList.map (·.key)).Nodup) (hs : es.size ≤ 1000000) :
    Calls Tryz.prog 71 #[.func (.func g) #[] #[.pointer (some ⟨bm, 0, none⟩)], .func (.func 73) #[] #[]] w fun e w' => Below w.heap.size w w' ∧ ∃ xs : List ByteArray, (xs.map Value.string).Perm (es.toList.map (·.key)) ∧ xs.Pairwise (fun a b => Lib.compareBytes a.data.toList b.data.toList ≤ 0) ∧
        ((xs = [] ∧ e = .returned (.slice none 0 0)) ∨ (xs ≠ [] ∧ ∃ gb cap cur, e = .returned (.slice (some ⟨gb, 0, none⟩) xs.length cap) ∧ w.heap.size ≤ gb ∧ w'.heap[gb]? = some (.cells cur 9 (0, 0)) ∧ xs.length ≤ cap ∧ cap ≤ cur.size ∧ ∀ (j : Nat) x, xs[j]? = some x → cur[j]? = some (.string x))) := by
  have hbm : bm < w.heap.size := by
    rcases Nat.lt_or_ge bm w.heap.size with h | h
    · exact h
    · simp [World.cell?, Array.getElem?_eq_none h] at hm
  have hown := owns_any hb hold hn hstr hk hs
  have hseq := hgen bm b es.size (datOf es) w hbm hm hown
  refine (callsIn_wide.1 (sorted_gen g eg bm _ _ w (by rw [size_dat]; exact hs) hseq)).mono ?_
  rintro e w' ⟨hbw, ss, hp, hpw, hrest⟩
  have hmap : ∀ x : List UInt8, (⟨x.toArray⟩ : ByteArray).data.toList = x := fun x => by simp
  refine ⟨hbw, ss.map (fun x => ⟨x.toArray⟩), ?_, ?_, ?_⟩
  · have h1 := (hp.trans (keys_perm hstr)).map encStr
    rw [List.map_map] at h1 ⊢
    refine h1.trans (List.Perm.of_eq ?_)
    refine List.map_congr_left (fun x hx => ?_)
    obtain ⟨k, h2, _⟩ := hstr x hx
    show encStr (keyL x) = x.key
    unfold keyL
    rw [h2]
  · exact List.Pairwise.map _ (fun a b hab => by rw [hmap, hmap]; exact hab) hpw
  · rcases hrest with ⟨rfl, h2⟩ | ⟨h1, gb, cap, cur, h2, h3, h4, h5, h6, h7⟩
    · exact .inl ⟨rfl, h2⟩
    · refine .inr ⟨by simpa using h1, gb, cap, cur, by rw [List.length_map]; exact h2, h3, h4, by rw [List.length_map]; exact h5, h6, fun j x hx => ?_⟩
      rw [List.getElem?_map, Option.map_eq_some_iff] at hx
      obtain ⟨y, hy, rfl⟩ := hx
      exact h7 j y hy
theorem sorted_all (g : Nat) (hg : g ∈ [132, 437, 517]) (bm b clock : Nat) (es : Array MapEntry) (w : World) (hm : w.cell? ⟨bm, 0, none⟩ = some (.map (some b))) (hb : w.heap[b]? = some (.map es clock)) (hold : ∀ x ∈ es.toList, x.born < clock) (hn : (es.toList.map (·.born)).Nodup) (hstr : ∀ x ∈ es.toList, ∃ k, x.key = .string k ∧ k.size ≤ 1000000) (hk : (es.toList.map (·.key)).Nodup) (hs : es.size ≤ 1000000) :
    Calls Tryz.prog 71 #[.func (.func g) #[] #[.pointer (some ⟨bm, 0, none⟩)], .func (.func 73) #[] #[]] w fun e w' => Below w.heap.size w w' ∧ ∃ xs : List ByteArray, (xs.map Value.string).Perm (es.toList.map (·.key)) ∧ xs.Pairwise (fun a b => Lib.compareBytes a.data.toList b.data.toList ≤ 0) ∧
        ((xs = [] ∧ e = .returned (.slice none 0 0)) ∨ (xs ≠ [] ∧ ∃ gb cap cur, e = .returned (.slice (some ⟨gb, 0, none⟩) xs.length cap) ∧ w.heap.size ≤ gb ∧ w'.heap[gb]? = some (.cells cur 9 (0, 0)) ∧ xs.length ≤ cap ∧ cap ≤ cur.size ∧ ∀ (j : Nat) x, xs[j]? = some x → cur[j]? = some (.string x))) := by
  simp only [List.mem_cons, List.mem_nil_iff, or_false] at hg
  rcases hg with rfl | rfl | rfl
  · exact sorted_told 132 (enters_of Tryz.func132 (by kernel_rfl) rfl) (fun bm b nn D w h1 h2 h3 => AnyZ.keys_gives (ρ := Tryz.itC_ren) { Tryz.itC with } Fence.wide 3 trivial rfl (by omega) bm b nn D w h1 h2 h3) bm b clock es w hm hb hold hn hstr hk hs
  · exact sorted_told 437 (enters_of Tryz.func437 (by kernel_rfl) rfl) (fun bm b nn D w h1 h2 h3 => AnyZ.keys_gives (ρ := Tryz.itB_ren) { Tryz.itB with } Fence.wide 3 trivial rfl (by omega) bm b nn D w h1 h2 h3) bm b clock es w hm hb hold hn hstr hk hs
  · exact sorted_told 517 (enters_of Tryz.func517 (by kernel_rfl) rfl) (fun bm b nn D w h1 h2 h3 => AnyZ.keys_gives (ρ := Tryz.itA_ren) { Tryz.itA with } Fence.wide 3 trivial rfl (by omega) bm b nn D w h1 h2 h3) bm b clock es w hm hb hold hn hstr hk hs
end Go.Proofs.YtceafmknfkaedaaGreatDoor

/- What the reckoner is told ahead. -/
namespace Go.Proofs.YtceafmknfkaedaaGreatDoor
open Go Go.Proofs Go.Proofs.YtceafmknfkaedaaGreatDoor.Rk
set_option linter.unusedVariables false
theorem plain_ : plainFuncs Tryz.prog = true := by kernel_rfl
theorem mixed_ : Tryz.prog.follows .mixedOrders = true := Tryz.lays156.mixed
theorem t_much : ToldT Tryz.prog 165 oMuch := (told_much tooMuch_any).toT plain_ (by kernel_rfl)
theorem t_sealed : ToldT Tryz.prog 648 (oSealed (placeA 1) (placeA 2) (.agg [])) := (told_sealed (k1' := placeV 1) (k2' := placeV 2) (v' := .agg #[]) (fun ρ => (place_ok 1).mono (fun b r h => by cases h)) (fun ρ => (place_ok 2).mono (fun b r h => by cases h)) (fun ρ => .agg _ _ .nil) sealed_any).toT plain_ (by kernel_rfl)
theorem t_check : ToldT Tryz.prog 339 (oCheck [(260, 2), (262, 3), (356, 2)]) := (told_check check_used check_fresh_any).toT plain_ (by kernel_rfl)
theorem t_compare : ToldT Tryz.prog 133 oCompare := (told_compare Tryz.strings_Compare).toT plain_ (by kernel_rfl)
theorem t_indexbyte : ToldT Tryz.prog 196 oIndexByte := (told_indexbyte Tryz.strings_IndexByte).toT plain_ (by kernel_rfl)
theorem t_count : ToldT Tryz.prog 159 oCount := (told_count Tryz.strings_Count_one).toT plain_ (by kernel_rfl)
theorem t_join : ToldT Tryz.prog 108 oJoin := (told_join Tryz.strings_Join_none Tryz.strings_Join).toT plain_ (by kernel_rfl)
theorem t_clone : ToldT Tryz.prog 109 oClone := (told_clone Tryz.stringslite_Clone).toT plain_ (by kernel_rfl)
theorem t_index : ToldT Tryz.prog 160 oIndex := (told_index Tryz.strings_Index_one).toT plain_ (by kernel_rfl)
theorem t_mapA : ToldT Tryz.prog 107 oMapClone := (told_mapclone (AnyW.maps_Clone Tryz.mcA)).toT plain_ (by kernel_rfl)
theorem t_mapB : ToldT Tryz.prog 164 oMapClone := (told_mapclone (AnyW.maps_Clone Tryz.mcB)).toT plain_ (by kernel_rfl)
theorem t_sorted : ToldT Tryz.prog 71 (oSorted [132, 437, 517] 73 9) := (told_sorted sorted_all).toT plain_ (by kernel_rfl)
theorem crcBit_eq (x : Nat) : P.crcBit x = crcBitN x := by
  unfold P.crcBit crcBitN P.poly
  by_cases h : x % 2 = 1
  · rw [if_pos h, h]; rfl
  · have h0 : x % 2 = 0 := by omega
    rw [if_neg h, h0]; rfl
theorem crcBits_eq : ∀ n x : Nat, P.crcBits n x = crcBitsN n x
  | 0, x => rfl
  | n + 1, x => by show P.crcBits n (P.crcBit x) = crcBitsN n (crcBitN x); rw [crcBits_eq n, crcBit_eq]
theorem crcFrom_eq : ∀ (l : List UInt8) (x : Nat), P.crcFrom x l = crcFromN x (l.map UInt8.toNat)
  | [], x => rfl
  | b :: l, x => by
    show P.crcFrom (P.crcByte x b) l = crcFromN (crcBitsN 8 (x ^^^ b.toNat)) (l.map UInt8.toNat)
    rw [crcFrom_eq l]
    unfold P.crcByte
    rw [crcBits_eq]
theorem t_crc : ToldT Tryz.prog 141 oCrc := (told_crc (fun b w hb => (crc_any b w (by unfold maxLen; omega)).mono (fun e w' ⟨h1, h2⟩ => ⟨by
  rw [h1]
  have : P.crc b.data.toList = crcN (toA b) := by
    unfold P.crc crcN toA P.ones
    rw [crcFrom_eq]
  rw [this], h2⟩))).toT plain_ (by kernel_rfl)
noncomputable def told0 : Rk.Told := addT (addT (addT (addT (addT (addT (addT (addT (addT (addT (addT (addT (addT (fun _ => none) 71 (oSorted [132, 437, 517] 73 9)) 648 (oSealed (placeA 1) (placeA 2) (.agg []))) 165 oMuch) 107 oMapClone) 164 oMapClone) 133 oCompare) 196 oIndexByte) 159 oCount) 108 oJoin) 339 (oCheck [(260, 2), (262, 3), (356, 2)])) 109 oClone) 160 oIndex) 141 oCrc
theorem told0_ok : TSound Tryz.prog told0 := (((((((((((((TSound.none).add t_sorted).add t_sealed).add t_much).add t_mapA).add t_mapB).add t_compare).add t_indexbyte).add t_count).add t_join).add t_check).add t_clone).add t_index).add t_crc
end Go.Proofs.YtceafmknfkaedaaGreatDoor
