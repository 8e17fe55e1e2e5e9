/- Parts, joined. -/
import Derived.MapKept
import Derived.Maps.Keyed
import Derived.Maps.RangeRun
import Derived.Test.YtlbdpcokddpjpaaGreatDoorWays
import Derived.Laws.OwnMore
import Derived.Deep.AppendLies
import Derived.OwnWalk
import Derived.Maps.RangeWalk
import Derived.Deep.MidRow
import Derived.Lib.ConvBytes
/- A map whose keys are texts, as the list of its keys and values: lookup, store, delete, size. Plain lemmas. -/
namespace Go.Proofs.YtlbdpcokddpjpaaGreatDoor
set_option linter.unusedVariables false
open Go Go.RowKit Go.MapKept
/-- A block is a map of texts; its entries stand in the order in which they were made. -/
def MapL {α : Type} (enc : α → Value) (w : World) (b : Nat) (l : List (ByteArray × α)) : Prop :=
  ∃ es clock, w.heap[b]? = some (.map es clock) ∧ Stamped es clock ∧ es.toList.map (fun e => (e.key, e.val)) = l.map fun p => (Value.string p.1, enc p.2)
namespace Dk
def get {α : Type} (l : List (ByteArray × α)) (x : ByteArray) : Option α := (l.find? fun p => decide (p.1 = x)).map (·.2)
def put {α : Type} (l : List (ByteArray × α)) (x : ByteArray) (a : α) : List (ByteArray × α) := if (get l x).isSome then l.map (fun p => if p.1 = x then (x, a) else p) else l ++ [(x, a)]
def del {α : Type} (l : List (ByteArray × α)) (x : ByteArray) : List (ByteArray × α) := l.filter fun p => decide (p.1 ≠ x)
def keys {α : Type} (l : List (ByteArray × α)) : List ByteArray := l.map (·.1)
section
variable {α : Type} {l : List (ByteArray × α)} {x y : ByteArray} {a : α}
theorem get_nil : get ([] : List (ByteArray × α)) x = none := rfl
theorem get_cons (p : ByteArray × α) : get (p :: l) x = if p.1 = x then some p.2 else get l x := by
  unfold get
  rw [List.find?_cons]
  by_cases h : p.1 = x
  · simp [h]
  · simp [h]
theorem get_none : get l x = none ↔ ∀ p ∈ l, p.1 ≠ x := by
  induction l with
  | nil => simp [get_nil]
  | cons p l ih =>
    rw [get_cons]
    by_cases h : p.1 = x
    · simp [h]
    · simp [h, ih]
theorem get_mem (h : get l x = some a) : (x, a) ∈ l := by
  induction l with
  | nil => cases h
  | cons p l ih =>
    rw [get_cons] at h
    by_cases hp : p.1 = x
    · rw [if_pos hp] at h
      obtain ⟨q, b⟩ := p
      simp only at hp h
      subst hp
      cases h
      exact List.mem_cons_self
    · rw [if_neg hp] at h
      exact List.mem_cons_of_mem _ (ih h)
theorem get_of_mem (hn : (keys l).Nodup) (h : (x, a) ∈ l) : get l x = some a := by
  induction l with
  | nil => cases h
  | cons p l ih =>
    rw [get_cons]
    obtain ⟨h1, h2⟩ := List.nodup_cons.1 hn
    rcases List.mem_cons.1 h with rfl | h3
    · rw [if_pos rfl]
    · rw [if_neg (fun e => h1 (List.mem_map.2 ⟨_, h3, e.symm⟩))]
      exact ih h2 h3
theorem get_at (hn : (keys l).Nodup) {j : Nat} (h : l[j]? = some (x, a)) : get l x = some a := get_of_mem hn (List.mem_of_getElem? h)
theorem get_put : get (put l x a) y = if y = x then some a else get l y := by
  unfold put
  cases hx : get l x with
  | some u =>
    simp only [Option.isSome_some, if_true]
    have key : ∀ m : List (ByteArray × α), get (m.map fun p => if p.1 = x then (x, a) else p) y = if y = x ∧ (get m x).isSome then some a else get m y := by
      intro m
      induction m with
      | nil => simp [get_nil]
      | cons p m ih =>
        rw [List.map_cons, get_cons, get_cons, get_cons, ih]
        by_cases hp : p.1 = x
        · by_cases hy : y = x
          · subst hy; simp [hp]
          · simp [hp, hy, Ne.symm hy]
        · by_cases hy : y = x
          · subst hy
            simp [hp]
          · simp [hp, hy]
    rw [key, hx]
    by_cases hy : y = x <;> simp [hy]
  | none =>
    simp only [Option.isSome_none, Bool.false_eq_true, if_false]
    have h0 := get_none.1 hx
    have key : ∀ m : List (ByteArray × α), (∀ p ∈ m, p.1 ≠ x) → get (m ++ [(x, a)]) y = if y = x then some a else get m y := by
      intro m
      induction m with
      | nil =>
        intro _
        rw [List.nil_append, get_cons, get_nil]
        by_cases hy : y = x
        · simp [hy]
        · simp [hy, Ne.symm hy]
      | cons p m ih =>
        intro hm
        rw [List.cons_append, get_cons, get_cons, ih (fun q hq => hm q (List.mem_cons_of_mem _ hq))]
        by_cases hy : y = x
        · subst hy
          simp [hm p List.mem_cons_self]
        · simp [hy]
    simpa using key l h0
theorem get_del : get (del l x) y = if y = x then none else get l y := by
  unfold del
  induction l with
  | nil => simp [get_nil]
  | cons p l ih =>
    rw [List.filter_cons]
    by_cases hp : p.1 = x
    · simp only [hp, ne_eq, not_true_eq_false, decide_false]
      rw [if_neg (by simp), ih, get_cons]
      by_cases hy : y = x
      · simp [hy]
      · simp [hy, hp, Ne.symm hy]
    · simp only [ne_eq, hp, not_false_eq_true, decide_true, if_true]
      rw [get_cons, get_cons, ih]
      by_cases hy : y = x
      · subst hy; simp [hp]
      · simp [hy]
theorem keys_put : keys (put l x a) = if (get l x).isSome then keys l else keys l ++ [x] := by
  unfold put keys
  split
  · rw [List.map_map]
    apply List.map_congr_left
    intro p _
    simp only [Function.comp]
    split
    · rename_i h; exact h.symm
    · rfl
  · simp
theorem len_put : (put l x a).length = if (get l x).isSome then l.length else l.length + 1 := by
  unfold put
  split <;> simp
theorem nodup_put (hn : (keys l).Nodup) : (keys (put l x a)).Nodup := by
  rw [keys_put]
  split
  · exact hn
  · rename_i h
    have h0 : get l x = none := by simpa using h
    rw [List.nodup_append]
    refine ⟨hn, by simp, fun u hu v hv => ?_⟩
    simp at hv
    subst hv
    obtain ⟨p, hp, rfl⟩ := List.mem_map.1 hu
    exact get_none.1 h0 p hp
theorem nodup_del (hn : (keys l).Nodup) : (keys (del l x)).Nodup := hn.sublist ((List.filter_sublist).map _)
end
end Dk
section
variable {α : Type} {enc : α → Value} {w w' : World} {b : Nat} {l : List (ByteArray × α)}
theorem MapL.lt (h : MapL enc w b l) : b < w.heap.size := by
  obtain ⟨es, clock, hb, _⟩ := h
  exact (Array.getElem?_eq_some_iff.1 hb).1
theorem MapL.keep (h : MapL enc w b l) (hb : w'.heap[b]? = w.heap[b]?) : MapL enc w' b l := by
  obtain ⟨es, clock, h1, h2⟩ := h
  exact ⟨es, clock, hb.trans h1, h2⟩
theorem MapL.stays (h : MapL enc w b l) (hs : Stays w w') : MapL enc w' b l := h.keep (hs.block b h.lt)
theorem MapL.below {B : Nat} (h : MapL enc w b l) (hs : Below B w w') (hb : b < B) : MapL enc w' b l := h.keep (hs.block b hb)
theorem MapL.grown {row : Option Nat} (h : MapL enc w b l) (hg : w.grownBy w' row) (hne : some b ≠ row) : MapL enc w' b l := h.keep (hg.block b h.lt hne)
theorem MapL.alloc (h : MapL enc w b l) (o : Obj) : MapL enc (w.alloc o) b l := h.keep (Below.heap_alloc w o b h.lt)
theorem MapL.set_ (h : MapL enc w b l) {p : Addr} (hp : b ≠ p.block) (u : Value) : MapL enc (w.setCell p u) b l := h.keep (Below.heap_setCell w p u b hp)
theorem MapL.drewN (h : MapL enc w b l) (n : Nat) : MapL enc (w.drewN n) b l := h
theorem MapL.made (w : World) : MapL enc (w.alloc (.map #[] 0)) w.heap.size [] := ⟨#[], 0, (MapKept.heap_alloc w _).1, stamped_empty 0, rfl⟩
theorem MapL.nodup (h : MapL enc w b l) : (Dk.keys l).Nodup := by
  obtain ⟨es, clock, hb, hs, hl⟩ := h
  have h2 := hs.2.2
  have e : es.toList.map (·.key) = (Dk.keys l).map Value.string := by
    have := congrArg (List.map Prod.fst) hl
    simpa [Dk.keys, List.map_map, Function.comp_def] using this
  rw [e] at h2
  exact List.Pairwise.of_map Value.string (fun a b hab e => hab (by rw [e])) h2
theorem entry_of {es : List MapEntry} (hl : es.map (fun e => (e.key, e.val)) = l.map fun p => (Value.string p.1, enc p.2)) {j : Nat} {e : MapEntry} (he : es[j]? = some e) : ∃ p, l[j]? = some p ∧ e.key = .string p.1 ∧ e.val = enc p.2 := by
  have h := congrArg (fun m => m[j]?) hl
  simp only [List.getElem?_map, he, Option.map_some] at h
  cases hp : l[j]? with
  | none => rw [hp] at h; cases h
  | some p =>
    rw [hp] at h
    simp only [Option.map_some, Option.some.injEq, Prod.mk.injEq] at h
    exact ⟨p, rfl, h.1, h.2⟩
theorem isKeys {es : List MapEntry} (hl : es.map (fun e => (e.key, e.val)) = l.map fun p => (Value.string p.1, enc p.2)) : ∀ e ∈ es, IsKey .string e.key := by
  intro e he
  obtain ⟨j, hj⟩ := List.getElem?_of_mem he
  obtain ⟨p, _, hk, _⟩ := entry_of hl hj
  rw [hk]
  trivial
/-- Where a key stands. -/
theorem find_of {es : List MapEntry} (hl : es.map (fun e => (e.key, e.val)) = l.map fun p => (Value.string p.1, enc p.2)) (hn : (Dk.keys l).Nodup) (x : ByteArray) :
    (Dk.get l x = none ∧ Instr.findNow .string (.string x) es 0 = some none) ∨ ∃ j a, Dk.get l x = some a ∧ l[j]? = some (x, a) ∧ Instr.findNow .string (.string x) es 0 = some (some (j, enc a)) ∧ ∃ e, es[j]? = some e ∧ e.key = .string x := by
  rcases findNow_spec (d := .string) (k := .string x) trivial es 0 (isKeys hl) with ⟨h1, h2⟩ | ⟨j, e, h1, h2, h3⟩
  · refine .inl ⟨Dk.get_none.2 fun p hp hx => ?_, h1⟩
    obtain ⟨j, hj⟩ := List.getElem?_of_mem hp
    have hlen : es.length = l.length := by simpa using congrArg List.length hl
    have hjl : j < es.length := by have := (List.getElem?_eq_some_iff.1 hj).1; omega
    obtain ⟨q, hq, hk, _⟩ := entry_of hl (List.getElem?_eq_getElem hjl)
    rw [hj] at hq
    cases hq
    exact h2 _ (List.getElem_mem hjl) (by rw [hk, hx])
  · obtain ⟨⟨k, a⟩, hq, hk, hv⟩ := entry_of hl h2
    rw [h3] at hk
    obtain rfl : x = k := by injection hk
    simp only at hv
    refine .inr ⟨j, a, Dk.get_at hn hq, hq, ?_, e, h2, h3⟩
    rw [h1, Nat.zero_add, hv]
variable {P : Program} {t kt et : TypeId}
/-- A lookup. -/
theorem MapL.look (h : MapL enc w b l) (hu : P.underlying t = some (.map kt et)) (hd : P.underlying kt = some .string) {z : Value} (hz : (zeroValue et).run P w = .ok z w) (x : ByteArray) (c : Bool) :
    (Instr.lookup t (.map (some b)) (.string x) c).run P w = .ok (if c then .tuple #[((Dk.get l x).map enc).getD z, .bool (Dk.get l x).isSome] else ((Dk.get l x).map enc).getD z) w := by
  have hn := h.nodup
  obtain ⟨es, clock, hb, hs, hl⟩ := h
  rcases find_of hl hn x with ⟨h1, h2⟩ | ⟨j, a, h1, _, h2, _⟩
  · simp [Instr.lookup, run_underlying hu, MapKept.run_getObj_map hb, run_checkKey (d := .string) hd (k := .string x) trivial, run_findKey hd h2, h1, hz, Result.andThen]
  · simp [Instr.lookup, run_underlying hu, MapKept.run_getObj_map hb, run_checkKey (d := .string) hd (k := .string x) trivial, run_findKey hd h2, h1, Result.andThen]
theorem grown_block (w : World) (b : Nat) (o : Obj) : w.grownBy { w with heap := w.heap.setIfInBounds b o } (some b) :=
  ⟨rfl, rfl, rfl, by simp, fun i _ hi => by
    have hne : b ≠ i := fun e => hi (by rw [e])
    simp [hne]⟩
/-- A store. -/
theorem MapL.store (h : MapL enc w b l) (hu : P.underlying t = some (.map kt et)) (hd : P.underlying kt = some .string) (x : ByteArray) (a : α) :
    ∃ w', (Instr.mapUpdate t (.map (some b)) (.string x) (enc a)).run P w = .ok () w' ∧ MapL enc w' b (Dk.put l x a) ∧ w.grownBy w' (some b) := by
  have hn := h.nodup
  obtain ⟨es, clock, hb, hs, hl⟩ := h
  have hlen : es.toList.length = l.length := by simpa using congrArg List.length hl
  rcases find_of hl hn x with ⟨h1, h2⟩ | ⟨j, a0, h1, hj, h2, e, he, hk⟩
  · have hno : ∀ e ∈ es.toList, e.key ≠ .string x := by
      intro e he hk
      obtain ⟨j, hj⟩ := List.getElem?_of_mem he
      obtain ⟨p, hp, hk', _⟩ := entry_of hl hj
      rw [hk] at hk'
      injection hk' with hk'
      exact Dk.get_none.1 h1 p (List.mem_of_getElem? hp) hk'.symm
    refine ⟨{ w with heap := w.heap.setIfInBounds b (.map (es.push ⟨.string x, enc a, clock⟩) (clock + 1)) }, by simp [Instr.mapUpdate, run_underlying hu, MapKept.run_getObj_map hb, run_checkKey (d := .string) hd (k := .string x) trivial, run_findKey hd h2, MapKept.run_setObj_map _ hb, Result.andThen], ⟨_, _, (heap_set hb).1, stamped_push hs hno, ?_⟩, grown_block w b _⟩
    simp only [Array.toList_push, List.map_append, hl, List.map_cons, List.map_nil]
    unfold Dk.put
    rw [h1]
    simp
  · have hj' : es[j]? = some e := by simpa using he
    have hkey : ∀ e', es[j]? = some e' → ({ key := .string x, val := enc a, born := e'.born } : MapEntry).key = e'.key := fun e' he' => by rw [hj'] at he'; cases he'; exact hk.symm
    refine ⟨{ w with heap := w.heap.setIfInBounds b (.map (es.modify j fun e => { e with key := .string x, val := enc a }) clock) }, by simp [Instr.mapUpdate, run_underlying hu, MapKept.run_getObj_map hb, run_checkKey (d := .string) hd (k := .string x) trivial, run_findKey hd h2, hj', hk, run_keyThatStays (d := .string) (k := .string x) trivial, MapKept.run_setObj_map _ hb, Result.andThen], ⟨_, _, (heap_set hb).1, stamped_modify hs _ _ (fun _ _ => rfl) (fun e' _ he' => hkey e' he'), ?_⟩, grown_block w b _⟩
    unfold Dk.put
    rw [h1]
    simp only [Option.isSome_some, if_true]
    apply List.ext_getElem?
    intro i
    simp only [Array.toList_modify, List.getElem?_map, List.getElem?_modify]
    cases hi : es.toList[i]? with
    | none =>
      have : l[i]? = none := by rw [List.getElem?_eq_none_iff] at hi ⊢; omega
      simp [this]
    | some ei =>
      obtain ⟨p, hp, hkp, hvp⟩ := entry_of hl hi
      rw [hp]
      simp only [Option.map_some]
      by_cases hij : j = i
      · subst hij
        rw [hj] at hp
        cases hp
        simp
      · have hpx : p.1 ≠ x := by
          intro hpx
          have h3 := hs.2.2
          have h4 : i < es.toList.length := (List.getElem?_eq_some_iff.1 hi).1
          have h5 : j < es.toList.length := (List.getElem?_eq_some_iff.1 he).1
          have h6 : (es.toList.map (·.key))[i]'(by simpa using h4) = (es.toList.map (·.key))[j]'(by simpa using h5) := by
            have e1 := (List.getElem?_eq_some_iff.1 hi).2
            have e2 := (List.getElem?_eq_some_iff.1 he).2
            simp only [List.getElem_map, e1, e2, hkp, hk, hpx]
          rcases Nat.lt_or_ge i j with h7 | h7
          · exact List.pairwise_iff_getElem.1 h3 i j (by simpa using h4) (by simpa using h5) h7 h6
          · exact List.pairwise_iff_getElem.1 h3 j i (by simpa using h5) (by simpa using h4) (by omega) h6.symm
        simp [hij, hpx, hkp, hvp]
theorem map_erase {β γ : Type} (f : β → γ) : ∀ (m : List β) (j : Nat), (m.eraseIdx j).map f = (m.map f).eraseIdx j
  | [], j => by simp
  | _ :: _, 0 => rfl
  | x :: m, j + 1 => by
    simp only [List.eraseIdx_cons_succ, List.map_cons]
    rw [map_erase f m j]
/-- A key is struck out. -/
theorem MapL.delete (h : MapL enc w b l) (hu : P.underlying t = some (.map kt et)) (hd : P.underlying kt = some .string) (x : ByteArray) (ty : TypeId) :
    ∃ w', (Builtin.delete_ #[t, kt] ty #[.map (some b), .string x]).run P w = .ok (.tuple #[]) w' ∧ MapL enc w' b (Dk.del l x) ∧ w.grownBy w' (some b) := by
  have hn := h.nodup
  obtain ⟨es, clock, hb, hs, hl⟩ := h
  rcases find_of hl hn x with ⟨h1, h2⟩ | ⟨j, a0, h1, hj, h2, e, he, hk⟩
  · refine ⟨{ w with heap := w.heap.setIfInBounds b (.map es clock) }, by simp [Builtin.delete_, run_underlying hu, MapKept.run_getObj_map hb, run_checkKey (d := .string) hd (k := .string x) trivial, run_findKey hd h2, MapKept.run_setObj_map _ hb, Result.andThen], ⟨_, _, (heap_set hb).1, hs, ?_⟩, grown_block w b _⟩
    have : Dk.del l x = l := List.filter_eq_self.2 fun p hp => by simpa using Dk.get_none.1 h1 p hp
    rw [this]
    exact hl
  · refine ⟨{ w with heap := w.heap.setIfInBounds b (.map (es.eraseIdxIfInBounds j) clock) }, by simp [Builtin.delete_, run_underlying hu, MapKept.run_getObj_map hb, run_checkKey (d := .string) hd (k := .string x) trivial, run_findKey hd h2, MapKept.run_setObj_map _ hb, Result.andThen], ⟨_, _, (heap_set hb).1, stamped_erase hs j, ?_⟩, grown_block w b _⟩
    have hjs : j < es.size := by have := (List.getElem?_eq_some_iff.1 he).1; simpa using this
    have e1 : (es.eraseIdxIfInBounds j).toList = es.toList.eraseIdx j := by
      unfold Array.eraseIdxIfInBounds
      rw [dif_pos hjs, Array.toList_eraseIdx]
    have key : ∀ (m : List (ByteArray × α)) (j : Nat), (Dk.keys m).Nodup → m[j]? = some (x, a0) → Dk.del m x = m.eraseIdx j := by
      intro m
      induction m with
      | nil => intro j _ h; simp at h
      | cons p m ih =>
        intro j hn h
        obtain ⟨n1, n2⟩ := List.nodup_cons.1 hn
        cases j with
        | zero =>
          simp at h
          subst h
          unfold Dk.del
          rw [List.filter_cons, if_neg (by simp), List.eraseIdx_cons_zero]
          refine List.filter_eq_self.2 fun q hq => ?_
          have : q.1 ≠ x := fun e => n1 (List.mem_map.2 ⟨q, hq, e⟩)
          simpa using this
        | succ j =>
          simp only [List.getElem?_cons_succ] at h
          have hp : p.1 ≠ x := fun e => n1 (List.mem_map.2 ⟨_, List.mem_of_getElem? h, e.symm⟩)
          unfold Dk.del
          rw [List.filter_cons, if_pos (by simpa using hp), List.eraseIdx_cons_succ]
          exact congrArg _ (ih j n2 h)
    rw [e1, key l j hn hj, map_erase, hl, map_erase]
/-- How many. -/
theorem MapL.len (h : MapL enc w b l) (hu : P.underlying t = some (.map (P.mapKeyOf t) (P.mapElemOf t))) (ty : TypeId) : (Builtin.len_ #[t] ty #[.map (some b)]).run P w = .ok (.int .i64 (l.length : Int)) w := by
  obtain ⟨es, clock, hb, hs, hl⟩ := h
  have hlen : es.toList.length = l.length := by simpa using congrArg List.length hl
  rw [run_len_map (P := P) w t ty b es clock hu hb, ← hlen]
  rfl
section
variable {ops : Array Oper} {rest : List Oper} {o : Oper} {a : Act} {Q : Exit → Act → World → Prop}
/-- The store as an operation of a walk. -/
theorem wpList_put_L (hg : o.guard = none) (m x v : Operand) (t : TypeId) (hop : o.op = Op.mapUpdate t m x v) (h : MapL enc w b l) (hu : P.underlying t = some (.map kt et)) (hd : P.underlying kt = some .string) (k : ByteArray) (y : α)
    (hm : a.eval m = .map (some b)) (hx : a.eval x = .string k) (hv : a.eval v = enc y)
    (hK : ∀ w', MapL enc w' b (Dk.put l k y) → w.grownBy w' (some b) → wpList P ops Q rest (a.put o.dst undef) w') : wpList P ops Q (o :: rest) a w := by
  refine wpList_plain hg fun K' hK' => ?_
  obtain ⟨w', hrun, r1, r2⟩ := h.store hu hd k y
  unfold Oper.wp
  simp [execOp, hop, hm, hx, hv, hrun, Result.andThen]
  exact hK' _ _ (hK w' r1 r2)
/-- A key struck out as an operation of a walk. -/
theorem wpList_del_L (hg : o.guard = none) (m x : Operand) (t : TypeId) (hop : o.op = Op.call { callee := Callee.builtin Builtin.delete, args := #[m, x], argTypes := #[t, kt] }) (h : MapL enc w b l) (hu : P.underlying t = some (.map kt et)) (hd : P.underlying kt = some .string) (k : ByteArray)
    (hm : a.eval m = .map (some b)) (hx : a.eval x = .string k)
    (hK : ∀ w', MapL enc w' b (Dk.del l k) → w.grownBy w' (some b) → wpList P ops Q rest (a.put o.dst (.tuple #[])) w') : wpList P ops Q (o :: rest) a w := by
  refine wpList_plain hg fun K' hK' => ?_
  obtain ⟨w', hrun, r1, r2⟩ := h.delete hu hd k o.type
  unfold Oper.wp
  simp [execOp, hop, resolve, invoke, builtin, hm, hx, hrun, Result.andThen]
  exact hK' _ _ (hK w' r1 r2)
end
end
end Go.Proofs.YtlbdpcokddpjpaaGreatDoor

/- A slice that reads as a list of cells, nil let in; texts; what may change of memory: two blocks alone. Plain lemmas. -/
namespace Go.Proofs.YtlbdpcokddpjpaaGreatDoor
set_option linter.unusedVariables false
open Go Go.RowKit
theorem block_of_add (a : Addr) (n : Nat) : (a.add n).block = a.block := by unfold Addr.add; split <;> rfl
/-- The slice value '.slice A n c' reads as the cells xs, 'size' cells an element, below block B. -/
def Reads (w : World) (B size : Nat) (A : Option Addr) (n : Nat) (xs : List Value) : Prop :=
  xs.length = n * size ∧ (0 < n → ∃ ad, A = some ad ∧ ad.block < B ∧ ∀ j u, xs[j]? = some u → w.cell? (ad.add j) = some u)
section
variable {w w' : World} {B B' size n : Nat} {A : Option Addr} {xs : List Value}
theorem Reads.nil : Reads w B size A 0 [] := ⟨by simp, fun h => absurd h (by omega)⟩
theorem Reads.keep (h : Reads w B size A n xs) (hk : ∀ p : Addr, p.block < B → w'.cell? p = w.cell? p) : Reads w' B size A n xs :=
  ⟨h.1, fun hn => by
    obtain ⟨ad, e, hb, hc⟩ := h.2 hn
    exact ⟨ad, e, hb, fun j u hu => (hk _ (by rw [block_of_add]; exact hb)).trans (hc j u hu)⟩⟩
theorem Reads.more (h : Reads w B size A n xs) (hB : B ≤ B') : Reads w B' size A n xs :=
  ⟨h.1, fun hn => by
    obtain ⟨ad, e, hb, hc⟩ := h.2 hn
    exact ⟨ad, e, by omega, hc⟩⟩
theorem Reads.below (h : Reads w B size A n xs) (hb : Below B w w') : Reads w' B size A n xs := h.keep fun _ hp => hb.cell hp
end
def StrsAt (w : World) (B : Nat) (A : Option Addr) (n : Nat) (l : List ByteArray) : Prop := Reads w B 1 A n (l.map Value.string)
section
variable {w w' : World} {B n : Nat} {A : Option Addr} {l : List ByteArray}
theorem StrsAt.len (h : StrsAt w B A n l) : l.length = n := by
  have := h.1
  simpa using this
theorem StrsAt.below (h : StrsAt w B A n l) (hb : Below B w w') : StrsAt w' B A n l := Reads.below h hb
theorem StrsAt.in_ {k : Nat} (h : StrsAt w B A n l) (hk : k < n) : ∃ ad s, A = some ad ∧ ad.block < B ∧ l[k]? = some s ∧ w.cell? (ad.add k) = some (.string s) := by
  obtain ⟨ad, e, hb, hc⟩ := h.2 (by omega)
  have hl := h.len
  exact ⟨ad, l[k]'(by omega), e, hb, List.getElem?_eq_getElem (by omega), hc k _ (by rw [List.getElem?_map, List.getElem?_eq_getElem (by omega)]; rfl)⟩
theorem StrsAt.blk {g : Nat} {t : TypeId} (h : Blk w g t (l.map Value.string).toArray) : StrsAt w w.heap.size (some ⟨g, 0, none⟩) l.length l := by
  refine ⟨by simp, fun _ => ⟨_, rfl, h.lt, fun j u hu => ?_⟩⟩
  rw [Addr.add_lit, Nat.zero_add, h.cell]
  simpa using hu
end
theorem bt' {w a b : World} (h : Below w.heap.size w a) (k : Stays a b) : Below w.heap.size w b := h.trans (k.mono h.size)
theorem bt'' {w a b : World} (h : Below w.heap.size w a) (k : Below a.heap.size a b) : Below w.heap.size w b := h.trans (k.mono h.size)
/-- Of what was there two blocks alone may have turned. -/
structure Chg (g m : Nat) (w w' : World) : Prop where
  os : w'.os = w.os
  tape : w'.tape = w.tape
  output : w'.output = w.output
  size : w.heap.size ≤ w'.heap.size
  block : ∀ b, b < w.heap.size → b ≠ g → b ≠ m → w'.heap[b]? = w.heap[b]?
section
variable {g m : Nat} {w w' w'' : World}
theorem Chg.refl (g m : Nat) (w : World) : Chg g m w w := ⟨rfl, rfl, rfl, Nat.le_refl _, fun _ _ _ _ => rfl⟩
theorem Chg.trans (h : Chg g m w w') (k : Chg g m w' w'') : Chg g m w w'' :=
  ⟨k.os.trans h.os, k.tape.trans h.tape, k.output.trans h.output, Nat.le_trans h.size k.size, fun b hb h1 h2 => (k.block b (Nat.lt_of_lt_of_le hb h.size) h1 h2).trans (h.block b hb h1 h2)⟩
theorem Chg.of_below (h : Below w.heap.size w w') : Chg g m w w' := ⟨h.os, h.tape, h.output, h.size, fun b hb _ _ => h.block b hb⟩
theorem Chg.below (h : Chg g m w w') (k : Below w'.heap.size w' w'') : Chg g m w w'' := h.trans (Chg.of_below k)
theorem Chg.stays (h : Chg g m w w') (k : Stays w' w'') : Chg g m w w'' := h.trans (Chg.of_below k)
theorem Chg.grown (h : Chg g m w w') {row : Option Nat} (k : w'.grownBy w'' row) (hr : ∀ r, row = some r → r = g ∨ r = m ∨ w.heap.size ≤ r) : Chg g m w w'' :=
  ⟨k.os.trans h.os, k.tape.trans h.tape, k.output.trans h.output, Nat.le_trans h.size k.size, fun b hb h1 h2 => (k.block b (Nat.lt_of_lt_of_le hb h.size) (fun e => by
    rcases hr b e.symm with r | r | r
    · exact h1 r
    · exact h2 r
    · omega)).trans (h.block b hb h1 h2)⟩
theorem Chg.alloc (h : Chg g m w w') (o : Obj) : Chg g m w (w'.alloc o) := h.below ((Below.refl _ _).alloc (Nat.le_refl _) o)
theorem Chg.drewN (h : Chg g m w w') (n : Nat) : Chg g m w (w'.drewN n) := ⟨h.os, h.tape, h.output, h.size, h.block⟩
theorem Chg.drew (h : Chg g m w w') : Chg g m w w'.drew := ⟨h.os, h.tape, h.output, h.size, h.block⟩
theorem Chg.set_ (h : Chg g m w w') {p : Addr} (hp : p.block = g ∨ p.block = m ∨ w.heap.size ≤ p.block) (u : Value) : Chg g m w (w'.setCell p u) :=
  ⟨h.os, h.tape, h.output, by simp [World.setCell]; exact h.size, fun b hb h1 h2 => (Below.heap_setCell _ _ _ _ (fun e => by
    subst e
    rcases hp with r | r | r
    · exact h1 r
    · exact h2 r
    · omega)).trans (h.block b hb h1 h2)⟩
theorem Chg.setCells (h : Chg g m w w') {b : Nat} (hb : b = g ∨ b = m ∨ w.heap.size ≤ b) : ∀ (vs : List Value) (o : Nat), Chg g m w (w'.setCells b o vs) := by
  intro vs
  induction vs generalizing w' with
  | nil => intro o; exact h
  | cons v vs ih => intro o; exact ih (h.set_ (p := ⟨b, o, none⟩) hb v) (o + 1)
theorem Blk.chg {k : Nat} {t : TypeId} {cs : Array Value} (h : Blk w k t cs) (hc : Chg g m w w') (h1 : k ≠ g) (h2 : k ≠ m) : Blk w' k t cs := (hc.block k h.lt h1 h2).trans h
theorem MapL.chg {α : Type} {enc : α → Value} {b : Nat} {l : List (ByteArray × α)} (h : MapL enc w b l) (hc : Chg g m w w') (h1 : b ≠ g) (h2 : b ≠ m) : MapL enc w' b l := h.keep (hc.block b h.lt h1 h2)
end
/-- Of what was there three blocks alone may have turned. -/
structure Chj (g m j : Nat) (w w' : World) : Prop where
  os : w'.os = w.os
  tape : w'.tape = w.tape
  output : w'.output = w.output
  size : w.heap.size ≤ w'.heap.size
  block : ∀ b, b < w.heap.size → b ≠ g → b ≠ m → b ≠ j → w'.heap[b]? = w.heap[b]?
section
variable {g m j : Nat} {w w' w'' : World}
theorem Chj.refl (g m j : Nat) (w : World) : Chj g m j w w := ⟨rfl, rfl, rfl, Nat.le_refl _, fun _ _ _ _ _ => rfl⟩
theorem Chj.trans (h : Chj g m j w w') (k : Chj g m j w' w'') : Chj g m j w w'' :=
  ⟨k.os.trans h.os, k.tape.trans h.tape, k.output.trans h.output, Nat.le_trans h.size k.size, fun b hb h1 h2 h3 => (k.block b (Nat.lt_of_lt_of_le hb h.size) h1 h2 h3).trans (h.block b hb h1 h2 h3)⟩
theorem Chj.of_below (h : Below w.heap.size w w') : Chj g m j w w' := ⟨h.os, h.tape, h.output, h.size, fun b hb _ _ _ => h.block b hb⟩
theorem Chj.below (h : Chj g m j w w') (k : Below w'.heap.size w' w'') : Chj g m j w w'' := h.trans (Chj.of_below k)
theorem Chj.stays (h : Chj g m j w w') (k : Stays w' w'') : Chj g m j w w'' := h.trans (Chj.of_below k)
theorem Chj.grown (h : Chj g m j w w') {row : Option Nat} (k : w'.grownBy w'' row) (hr : ∀ r, row = some r → r = g ∨ r = m ∨ r = j ∨ w.heap.size ≤ r) : Chj g m j w w'' :=
  ⟨k.os.trans h.os, k.tape.trans h.tape, k.output.trans h.output, Nat.le_trans h.size k.size, fun b hb h1 h2 h3 => (k.block b (Nat.lt_of_lt_of_le hb h.size) (fun e => by
    rcases hr b e.symm with r | r | r | r
    · exact h1 r
    · exact h2 r
    · exact h3 r
    · omega)).trans (h.block b hb h1 h2 h3)⟩
theorem Chj.alloc (h : Chj g m j w w') (o : Obj) : Chj g m j w (w'.alloc o) := h.below ((Below.refl _ _).alloc (Nat.le_refl _) o)
theorem Chj.drewN (h : Chj g m j w w') (n : Nat) : Chj g m j w (w'.drewN n) := ⟨h.os, h.tape, h.output, h.size, h.block⟩
theorem Chj.drew (h : Chj g m j w w') : Chj g m j w w'.drew := ⟨h.os, h.tape, h.output, h.size, h.block⟩
theorem Chj.set_ (h : Chj g m j w w') {p : Addr} (hp : p.block = g ∨ p.block = m ∨ p.block = j ∨ w.heap.size ≤ p.block) (u : Value) : Chj g m j w (w'.setCell p u) :=
  ⟨h.os, h.tape, h.output, by simp [World.setCell]; exact h.size, fun b hb h1 h2 h3 => (Below.heap_setCell _ _ _ _ (fun e => by
    subst e
    rcases hp with r | r | r | r
    · exact h1 r
    · exact h2 r
    · exact h3 r
    · omega)).trans (h.block b hb h1 h2 h3)⟩
theorem Chj.setCells (h : Chj g m j w w') {b : Nat} (hb : b = g ∨ b = m ∨ b = j ∨ w.heap.size ≤ b) : ∀ (vs : List Value) (o : Nat), Chj g m j w (w'.setCells b o vs) := by
  intro vs
  induction vs generalizing w' with
  | nil => intro o; exact h
  | cons v vs ih => intro o; exact ih (h.set_ (p := ⟨b, o, none⟩) hb v) (o + 1)
theorem Chj.of (h : Chg g m w w') : Chj g m j w w' := ⟨h.os, h.tape, h.output, h.size, fun b hb h1 h2 _ => h.block b hb h1 h2⟩
theorem Chj.self (h : Chj g m g w w') : Chg g m w w' := ⟨h.os, h.tape, h.output, h.size, fun b hb h1 h2 => h.block b hb h1 h2 h1⟩
/-- A block made since may have turned, too. -/
theorem Chg.more {w0 : World} (h : Chg g m w0 w) (k : Chj g m j w w') (hj : w0.heap.size ≤ j) : Chg g m w0 w' :=
  ⟨k.os.trans h.os, k.tape.trans h.tape, k.output.trans h.output, Nat.le_trans h.size k.size, fun b hb h1 h2 => (k.block b (Nat.lt_of_lt_of_le hb h.size) h1 h2 (by omega)).trans (h.block b hb h1 h2)⟩
theorem Blk.chj {k : Nat} {t : TypeId} {cs : Array Value} (h : Blk w k t cs) (hc : Chj g m j w w') (h1 : k ≠ g) (h2 : k ≠ m) (h3 : k ≠ j) : Blk w' k t cs := (hc.block k h.lt h1 h2 h3).trans h
end
end Go.Proofs.YtlbdpcokddpjpaaGreatDoor

/- A range over a map: what is left, the step, in whatever order. Plain lemmas. -/
namespace Go.Proofs.YtlbdpcokddpjpaaGreatDoor
set_option linter.unusedVariables false
open Go Go.RowKit Go.ChangeMaps
theorem left_push (es : Array MapEntry) (seen : Array Nat) (e : MapEntry) : (leftOf es (seen.push e.born)).toList = (leftOf es seen).toList.filter fun x => !(x.born == e.born) := by
  unfold leftOf
  rw [Array.toList_filter, Array.toList_filter, List.filter_filter]
  congr 1
  funext x
  rw [Array.contains_push]
  cases seen.contains x.born <;> cases h : x.born == e.born <;> simp_all
theorem left_nodup {es : Array MapEntry} (seen : Array Nat) (h : (es.toList.map (·.born)).Nodup) : ((leftOf es seen).toList.map (·.born)).Nodup := by
  unfold leftOf
  rw [Array.toList_filter]
  exact h.sublist ((List.filter_sublist).map _)
theorem left_mem {es : Array MapEntry} {seen : Array Nat} {e : MapEntry} (h : e ∈ (leftOf es seen).toList) : e ∈ es.toList := by
  unfold leftOf at h
  rw [Array.toList_filter] at h
  exact (List.mem_filter.1 h).1
theorem left_all (es : Array MapEntry) : (leftOf es #[]).toList = es.toList := by
  unfold leftOf
  rw [Array.toList_filter]
  exact List.filter_eq_self.2 (fun x _ => by simp)
/-- The tape may have been asked. -/
def Drawn (w w1 : World) : Prop := w1 = w ∨ w1 = w.drew
/-- An entry that is still to come. -/
def Comes (es : Array MapEntry) (seen : Array Nat) (e : MapEntry) : Prop := e ∈ (leftOf es seen).toList
section
variable {P : Program} (w : World) {ops : Array Oper} {rest : List Oper} {o : Oper} {a : Act} {Q : Exit → Act → World → Prop}
theorem wpList_range_raw (hg : o.guard = none) (m : Operand) (t k e : TypeId) (hop : o.op = Op.range t m) (ht : P.underlying t = some (.map k e)) (b clock : Nat) (es : Array MapEntry)
    (hm : a.eval m = .map (some b)) (hb : w.heap[b]? = some (.map es clock)) (hK : wpList P ops Q rest (a.put o.dst (.pointer (some ⟨w.heap.size, 0, none⟩))) (w.alloc (.mapIter (some b) clock #[] clock))) : wpList P ops Q (o :: rest) a w := by
  refine wpList_plain hg fun K' hK' => ?_
  unfold Oper.wp
  simp [execOp, hop, hm, run_range_map w t k e b es clock ht hb, Result.andThen]
  exact hK' _ _ hK
theorem wpList_next_raw (hg : o.guard = none) (it : Operand) (hop : o.op = Op.next it false) (b r clock : Nat) (seen : Array Nat) (es : Array MapEntry) (hit : a.eval it = .pointer (some ⟨r, 0, none⟩))
    (hr : w.heap[r]? = some (.mapIter (some b) clock seen clock)) (hb : w.heap[b]? = some (.map es clock)) (hold : ∀ x ∈ es.toList, x.born < clock)
    (hDone : (leftOf es seen).size = 0 → wpList P ops Q rest (a.put o.dst (.tuple #[.bool false])) w)
    (hMore : ∀ e, Comes es seen e → ∀ w1 : World, Drawn w w1 → wpList P ops Q rest (a.put o.dst (.tuple #[.bool true, e.key, e.val])) (setBlock w1 r (.mapIter (some b) clock (seen.push e.born) clock))) :
    wpList P ops Q (o :: rest) a w := by
  refine wpList_plain hg fun K' hK' => ?_
  unfold Oper.wp
  rcases run_next_at (P := P) w o.type r b clock clock seen es clock hr hb hold (Nat.le_refl _) with ⟨h0, hrun⟩ | ⟨e, he, w1, hw1, hrun⟩
  · simp [execOp, hop, hit, hrun, Result.andThen]
    exact hK' _ _ (hDone h0)
  · simp [execOp, hop, hit, hrun, Result.andThen]
    exact hK' _ _ (hMore e he w1 hw1)
end
end Go.Proofs.YtlbdpcokddpjpaaGreatDoor

/- A store of a whole struct into a block that is known whole. Plain lemmas. -/
namespace Go.Proofs.YtlbdpcokddpjpaaGreatDoor
set_option linter.unusedVariables false
open Go Go.RowKit
theorem Stays.grown {a b : World} (h : Stays a b) (row : Option Nat) : a.grownBy b row := ⟨h.os, h.tape, h.output, h.size, fun k hk _ => h.block k hk⟩
theorem grown_set (w : World) (g o : Nat) (u : Value) : w.grownBy (w.setCell ⟨g, o, none⟩ u) (some g) := ⟨rfl, rfl, rfl, by simp [World.setCell], fun k _ hne => Below.heap_setCell _ _ _ _ (fun e => hne (by rw [e]))⟩
theorem Blk.setCells_get {t : TypeId} {b : Nat} : ∀ (vs : List Value) (o : Nat) (cs : Array Value) (w : World), Blk w b t cs → o + vs.length ≤ cs.size →
    ∃ cs2, Blk (w.setCells b o vs) b t cs2 ∧ cs2.size = cs.size ∧ ∀ i, cs2[i]? = if o ≤ i ∧ i < o + vs.length then vs[i - o]? else cs[i]?
  | [], o, cs, w, h, _ => ⟨cs, h, rfl, fun i => by simp; omega⟩
  | v :: vs, o, cs, w, h, hs => by
    simp only [List.length_cons] at hs
    obtain ⟨cs2, h1, h2, h3⟩ := Blk.setCells_get vs (o + 1) _ _ (h.set_ o v) (by simp; omega)
    refine ⟨cs2, h1, by rw [h2]; simp, fun i => ?_⟩
    rw [h3]
    by_cases hi : o + 1 ≤ i ∧ i < o + 1 + vs.length
    · rw [if_pos hi, if_pos (by simp only [List.length_cons]; omega), show i - o = (i - (o + 1)) + 1 by omega, List.getElem?_cons_succ]
    · rw [if_neg hi]
      by_cases ho : i = o
      · subst ho
        rw [if_pos (by simp only [List.length_cons]; omega), Nat.sub_self, Array.getElem?_setIfInBounds, if_pos rfl, if_pos (by omega), List.getElem?_cons_zero]
      · rw [if_neg (by simp only [List.length_cons]; omega)]
        simp [Ne.symm ho]
theorem Blk.setAll {w : World} {t : TypeId} {b : Nat} {cs cs' : Array Value} (h : Blk w b t cs) (hs : cs'.size = cs.size) : Blk (w.setCells b 0 cs'.toList) b t cs' := by
  obtain ⟨cs2, h1, h2, h3⟩ := Blk.setCells_get cs'.toList 0 cs w h (by simp; omega)
  have e : cs2 = cs' := by
    apply Array.ext_getElem?
    intro i
    rw [h3]
    by_cases hi : i < cs'.size
    · rw [if_pos (by simp; omega)]; simp
    · rw [if_neg (by simp; omega), Array.getElem?_eq_none (by omega), Array.getElem?_eq_none (by omega)]
  rwa [e] at h1
theorem grown_setCells (b : Nat) : ∀ (vs : List Value) (o : Nat) (w : World), w.grownBy (w.setCells b o vs) (some b)
  | [], _, w => (Stays.refl w).grown _
  | v :: vs, o, w => (grown_set w b o v).trans (grown_setCells b vs (o + 1) _)
theorem wpList_store_blk {P : Program} {ops : Array Oper} {rest : List Oper} {op : Oper} {a : Act} {w : World} {Q : Exit → Act → World → Prop} {t : TypeId} {cs cs' : Array Value} (hgd : op.guard = none) (ty : TypeId) (x y : Operand) (ho : op.op = .store ty x y)
    (b : Nat) (hx : a.eval x = .pointer (some ⟨b, 0, none⟩)) (hy : a.eval y = .agg cs') (hk : Blk w b t cs) (hs : cs'.size = cs.size) (hi : (P.info? ty).map (·.size) = some cs'.size) (h1 : cs'.all (·.oneCell') = true)
    (h : ∀ w', Blk w' b t cs' → w.grownBy w' (some b) → wpList P ops Q rest (a.put op.dst undef) w') : wpList P ops Q (op :: rest) a w :=
  wpList_store_mid hgd ty x y ho b 0 cs' hx hy (hk.there cs'.size (by omega)) hi h1 (h _ (hk.setAll hs) (grown_setCells b _ 0 w))
end Go.Proofs.YtlbdpcokddpjpaaGreatDoor

/- A block that holds a list of bytes, and may be written there; a text's bytes, and back. Plain lemmas. -/
namespace Go.Proofs.YtlbdpcokddpjpaaGreatDoor
set_option linter.unusedVariables false
open Go Go.RowKit Go.BigFrame
/-- A block that holds a list of bytes ahead of other cells, and may be written there. -/
def BytesAt (w : World) (g : Nat) (l : List UInt8) : Prop :=
  ∃ cs t m, w.heap[g]? = some (.cells cs t (m, m + 1)) ∧ l.length ≤ m ∧ ∀ i, i < l.length → cs[i]? = (cellsU8 l)[i]?
theorem BytesAt.cell {w : World} {g : Nat} {l : List UInt8} (h : BytesAt w g l) (i : Nat) (hi : i < l.length) : w.cell? ⟨g, i, none⟩ = some (.int .u8 (l[i].toNat : Int)) := by
  obtain ⟨cs, t, m, h1, h2, h3⟩ := h
  rw [cell_of_row w g i cs t _ h1, h3 i hi, cellsU8_get]
  simp [hi]
theorem BytesAt.frozen {w : World} {g : Nat} {l : List UInt8} (h : BytesAt w g l) (i : Nat) (hi : i < l.length) : w.frozen? ⟨g, i, none⟩ = false := by
  obtain ⟨cs, t, m, h1, h2, h3⟩ := h
  simp [World.frozen?, h1]
  omega
theorem BytesAt.set_ {w : World} {g : Nat} {l : List UInt8} (h : BytesAt w g l) (i : Nat) (hi : i < l.length) (b : UInt8) : BytesAt (w.setCell ⟨g, i, none⟩ (.int .u8 (b.toNat : Int))) g (l.set i b) := by
  obtain ⟨cs, t, m, h1, h2, h3⟩ := h
  refine ⟨cs.setIfInBounds i (.int .u8 (b.toNat : Int)), t, m, by simp [World.setCell, Array.getElem?_modify, h1], by simpa using h2, fun j hj => ?_⟩
  rw [← cellsU8_set]
  by_cases hij : i = j
  · subst hij
    rw [Array.getElem?_setIfInBounds_self, Array.getElem?_setIfInBounds_self]
    have h4 := h3 i hi
    have hc : i < (cellsU8 l).size := by rw [cellsU8_size]; exact hi
    rw [Array.getElem?_eq_getElem hc] at h4
    have hcs : i < cs.size := by
      rcases Nat.lt_or_ge i cs.size with h | h
      · exact h
      · rw [Array.getElem?_eq_none h] at h4; cases h4
    simp [hcs, hc]
  · rw [Array.getElem?_setIfInBounds_ne hij, Array.getElem?_setIfInBounds_ne hij]
    exact h3 j (by simpa using hj)
theorem BytesAt.lt {w : World} {g : Nat} {l : List UInt8} (h : BytesAt w g l) : g < w.heap.size := by
  obtain ⟨cs, t, m, h1, _⟩ := h
  rcases Nat.lt_or_ge g w.heap.size with hlt | hge
  · exact hlt
  · rw [Array.getElem?_eq_none hge] at h1; cases h1
theorem BytesAt.below {w w' : World} {g B : Nat} {l : List UInt8} (h : BytesAt w g l) (hb : Below B w w') (hg : g < B) : BytesAt w' g l := by
  obtain ⟨cs, t, m, h1, h2⟩ := h
  exact ⟨cs, t, m, (hb.block g hg).trans h1, h2⟩
theorem BytesAt.string {w : World} {g c : Nat} {l : List UInt8} (h : BytesAt w g l) :
    (convert 89 9 (.slice (some ⟨g, 0, none⟩) l.length c)).run Tryz.prog w = .ok (.string ⟨l.toArray⟩) w := by
  have h1 := run_convert_bytes_arg (P := Tryz.prog) w 89 5 Tryz.underlying89 Tryz.underlying5 g 0 l.length c (l.map fun b => (b.toNat : Int)) (by simp) (fun i hi => by
    rw [Nat.zero_add, h.cell i hi]
    simp [hi]) 9 Tryz.underlying9
  rw [h1]
  have he : ((fun n : Int => UInt8.ofNat n.toNat) ∘ fun b : UInt8 => (b.toNat : Int)) = id := by funext b; simp
  simp [strOfNums, he]
theorem bytes_of (w : World) (s : ByteArray) : ∃ c W2, (convert 9 89 (.string s)).run Tryz.prog w = .ok (.slice (some ⟨w.heap.size, 0, none⟩) s.size c) W2 ∧ s.size ≤ c ∧ BytesAt W2 w.heap.size s.data.toList ∧ Below w.heap.size w W2 := by
  have h := Lib.run_convert_string_bytes (P := Tryz.prog) w 9 89 5 s Tryz.underlying9 Tryz.underlying89 Tryz.underlying5
  refine ⟨_, _, h, ?_, ?_, ?_⟩
  · exact grownCap_ge _ _ _ _
  · refine ⟨_, _, _, Lib.bytesWorld_at_new w _ s, ?_, ?_⟩
    · simp [Lib.bytesCells]
    · intro i hi
      have hi' : i < s.data.size := by simpa using hi
      simp [Lib.bytesCells, Array.getElem?_append, cellsU8]
      intro h
      have : s.data.size = s.size := rfl
      omega
  · refine ⟨rfl, rfl, rfl, by rw [Lib.bytesWorld_size]; omega, fun k hk => Lib.bytesWorld_at_old w _ s k hk⟩
end Go.Proofs.YtlbdpcokddpjpaaGreatDoor

/- A disk in memory; what disk.New, On, IsName and asked return. -/
namespace Go.Proofs.YtlbdpcokddpjpaaGreatDoor
set_option linter.unusedVariables false
open Go Go.RowKit Go.BigFrame
namespace Dk
structure File where
  data : ByteArray
  synced : Nat
structure Fuse where
  n : Int
  cut : Int
  flip : Int
structure Disk where
  files : List (ByteArray × File)
  on : Bool
  room : Int
  fuse : Option Fuse
def new : Disk := ⟨[], true, -1, none⟩
/-- The signs that a name may have. -/
def sign (b : UInt8) : Bool := decide (97 ≤ b.toNat ∧ b.toNat ≤ 122) || decide (48 ≤ b.toNat ∧ b.toNat ≤ 57) || b == 46 || b == 45 || b == 95 || b == 47
def isName (s : ByteArray) : Bool := decide (0 < s.size) && decide (s.size ≤ 64) && s.data.toList.all sign
def asked (on : Bool) (names : List ByteArray) : Int := if on = false then 20 else if names.any (fun s => !isName s) = true then 21 else 0
/-- What is so of every disk. -/
structure Fine (d : Disk) : Prop where
  file : ∀ p ∈ d.files, p.2.synced ≤ p.2.data.size ∧ p.2.data.size ≤ 1048576
  few : d.files.length ≤ 2000
  room : -1 ≤ d.room ∧ d.room ≤ 9223372036854775807
  fuse : ∀ u, d.fuse = some u → 0 ≤ u.n ∧ u.n ≤ 9223372036854775807 ∧ -9223372036854775808 ≤ u.cut ∧ u.cut ≤ 9223372036854775807 ∧ -9223372036854775808 ≤ u.flip ∧ u.flip ≤ 9223372036854775807
theorem Fine.zero : Fine { files := [], on := true, room := -1, fuse := none } := ⟨(fun p hp => by cases hp), by simp, by simp, (fun u h => by cases h)⟩
theorem Fine.get {d : Disk} (h : Fine d) {x : ByteArray} {f : File} (hf : get d.files x = some f) : f.synced ≤ f.data.size ∧ f.data.size ≤ 1048576 := h.file _ (get_mem hf)
end Dk
def fileV (f : Dk.File) : Value := .agg #[.string f.data, .int .i64 (f.synced : Int)]
def FuseAt (w : World) (fp : Option Addr) : Option Dk.Fuse → Prop
  | none => fp = none
  | some u => ∃ h, fp = some ⟨h, 0, none⟩ ∧ Blk w h 88 #[.int .i64 u.n, .int .i64 u.cut, .int .i64 u.flip]
structure DiskAt (w : World) (g m : Nat) (d : Dk.Disk) : Prop where
  blk : ∃ fp acts, Blk w g 60 #[.map (some m), .bool d.on, .int .i64 d.room, .pointer fp, .int .i64 acts] ∧ FuseAt w fp d.fuse
  map : MapL fileV w m d.files
section
variable {w w' : World} {g m : Nat} {d : Dk.Disk}
theorem blk_ne {k k' : Nat} {t t' : TypeId} {cs cs' : Array Value} (h : Blk w k t cs) (h' : Blk w k' t' cs') (ht : t ≠ t') : k ≠ k' := by
  rintro rfl
  unfold Blk at h h'
  rw [h] at h'
  cases h'
  exact ht rfl
theorem blk_ne_map {k b : Nat} {t : TypeId} {cs : Array Value} {α : Type} {enc : α → Value} {l : List (ByteArray × α)} (h : Blk w k t cs) (h' : MapL enc w b l) : k ≠ b := by
  rintro rfl
  obtain ⟨es, clock, hb, _⟩ := h'
  unfold Blk at h
  rw [h] at hb
  cases hb
theorem DiskAt.lt (h : DiskAt w g m d) : g < w.heap.size ∧ m < w.heap.size := by
  obtain ⟨⟨fp, acts, hb, _⟩, hm⟩ := h
  exact ⟨hb.lt, hm.lt⟩
theorem FuseAt.below {B : Nat} {fp : Option Addr} {u : Option Dk.Fuse} (h : FuseAt w fp u) (hb : Below B w w') (hB : w.heap.size ≤ B) : FuseAt w' fp u := by
  cases u with
  | none => exact h
  | some u =>
    obtain ⟨k, hk, hh⟩ := h
    exact ⟨k, hk, hh.below hb (Nat.lt_of_lt_of_le hh.lt hB)⟩
theorem DiskAt.below (h : DiskAt w g m d) (hb : Below w.heap.size w w') : DiskAt w' g m d := by
  obtain ⟨⟨fp, acts, h1, h2⟩, hm⟩ := h
  exact ⟨⟨fp, acts, h1.below hb h1.lt, h2.below hb (Nat.le_refl _)⟩, hm.below hb hm.lt⟩
theorem DiskAt.stays (h : DiskAt w g m d) (hs : Stays w w') : DiskAt w' g m d := h.below ((Below.refl _ w).trans hs)
theorem DiskAt.alloc (h : DiskAt w g m d) (o : Obj) : DiskAt (w.alloc o) g m d := h.below ((Below.refl _ _).alloc (Nat.le_refl _) o)
/-- A store elsewhere. -/
theorem FuseAt.grown {fp : Option Addr} {u : Option Dk.Fuse} {row : Option Nat} (h : FuseAt w fp u) (hg : w.grownBy w' row) (hr : ∀ k, row = some k → ∀ cs, ¬ Blk w k 88 cs) : FuseAt w' fp u := by
  cases u with
  | none => exact h
  | some u =>
    obtain ⟨k, hk, hh⟩ := h
    exact ⟨k, hk, hh.grown hg (fun e => hr k e.symm _ hh)⟩
end
set_option maxRecDepth 100000 in
set_option maxHeartbeats 1000000 in
theorem on_any (w : World) (g m : Nat) (d : Dk.Disk) (h : DiskAt w g m d) : Calls Tryz.prog 18 #[.pointer (some ⟨g, 0, none⟩)] w fun e w' => e = .returned (.bool d.on) ∧ w = w' := by
  obtain ⟨⟨fp, acts, hb, _⟩, _⟩ := h
  have c := fun i => hb.cell i
  go_enter Tryz.func18, Tryz.ntmps18
  go_wp2
  go_ret
  exact ⟨rfl, rfl⟩
set_option maxRecDepth 100000 in
set_option maxHeartbeats 1000000 in
theorem new_any (w : World) : Calls Tryz.prog 6 #[] w fun e w' => ∃ g m, e = .returned (.pointer (some ⟨g, 0, none⟩)) ∧ DiskAt w' g m Dk.new ∧ Below w.heap.size w w' ∧ w.heap.size ≤ g ∧ w.heap.size ≤ m := by
  have hmm := @run_makeMap Tryz.prog
  go_enter Tryz.func6, Tryz.ntmps6
  go_wp2
  go_ret
  have h1 : (w.alloc (.map #[] 0)).heap.size = w.heap.size + 1 := by simp
  have hb := Blk.new (w.alloc (.map #[] 0)) 60 #[.map (some w.heap.size), .bool true, .int .i64 (-1), .pointer none, .int .i64 0]
  rw [h1] at hb
  refine ⟨_, w.heap.size, rfl, ⟨⟨none, 0, hb, rfl⟩, (MapL.made w).alloc _⟩, ?_, by omega, Nat.le_refl _⟩
  exact ((Below.refl _ _).alloc (Nat.le_refl _) _).alloc (by simp) _
/-- What is wanted of IsName. -/
def NameOk : Prop := ∀ (s : ByteArray) (w : World), s.size ≤ 9223372036854775807 → Calls Tryz.prog 94 #[.string s] w fun e w' => e = .returned (.bool (Dk.isName s)) ∧ Below w.heap.size w w'
set_option maxRecDepth 100000 in
set_option maxHeartbeats 1000000 in
theorem asked1_any (hN : NameOk) (s : ByteArray) (w : World) (hs : s.size ≤ 9223372036854775807) : Calls Tryz.prog 93 #[.string s] w fun e w' => e = .returned (.bool (!Dk.isName s)) ∧ Below w.heap.size w w' := by
  have K := Lib.hid (hN s w hs)
  go_enter Tryz.func93, Tryz.ntmps93
  go_wp2_with fail
  refine K.out.mono ?_
  rintro x w2 ⟨rfl, hb⟩
  go_wp2
  go_ret
  exact ⟨rfl, hb⟩
namespace Dk
def badAt (l : List ByteArray) : Option Nat := l.findIdx? fun s => !isName s
def badI (l : List ByteArray) : Int := match badAt l with | none => -1 | some k => (k : Int)
theorem badAt_some {l : List ByteArray} {k : Nat} {s : ByteArray} (hl : l[k]? = some s) (h : isName s = false) (hno : ∀ j s, j < k → l[j]? = some s → isName s = true) : badI l = (k : Int) := by
  obtain ⟨hk, e⟩ := List.getElem?_eq_some_iff.1 hl
  have : badAt l = some k := by
    unfold badAt
    rw [List.findIdx?_eq_some_iff_getElem]
    exact ⟨hk, by rw [e, h]; rfl, fun j hj => by rw [hno j _ hj (List.getElem?_eq_getElem (by omega))]; simp⟩
  unfold badI
  rw [this]
theorem badAt_none {l : List ByteArray} (hno : ∀ j s, j < l.length → l[j]? = some s → isName s = true) : badI l = -1 := by
  have : badAt l = none := by
    unfold badAt
    rw [List.findIdx?_eq_none_iff]
    intro s hs
    obtain ⟨j, hj⟩ := List.getElem?_of_mem hs
    rw [hno j s (List.getElem?_eq_some_iff.1 hj).1 hj]
    rfl
  unfold badI
  rw [this]
theorem bad_any (l : List ByteArray) : decide (0 ≤ badI l) = l.any fun s => !isName s := by
  unfold badI badAt
  cases h : l.findIdx? fun s => !isName s with
  | none =>
    rw [List.findIdx?_eq_none_iff] at h
    have : (l.any fun s => !isName s) = false := by rw [List.any_eq_false]; intro s hs; rw [h s hs]; simp
    rw [this]
    rfl
  | some k =>
    obtain ⟨hk, hp, _⟩ := List.findIdx?_eq_some_iff_getElem.1 h
    have : (l.any fun s => !isName s) = true := by rw [List.any_eq_true]; exact ⟨l[k], List.getElem_mem hk, hp⟩
    rw [this]
    simp
end Dk
set_option maxRecDepth 100000 in
set_option maxHeartbeats 1000000 in
theorem bad_any (hN : NameOk) (A : Option Addr) (n c : Nat) (l : List ByteArray) (B : Nat) (w : World) (h : StrsAt w B A n l) (hB : B ≤ w.heap.size) (hn : n ≤ maxLen) (hl : ∀ s ∈ l, s.size ≤ 9223372036854775807) :
    Calls Tryz.prog 89 #[.slice A n c, .func (.func 93) #[] #[]] w fun x w' => x = .returned (.int .i64 (Dk.badI l)) ∧ Below w.heap.size w w' := by
  unfold maxLen at hn
  have H := Lib.hid h
  have HL := Lib.hid hl
  clear h hl
  go_enter Tryz.func89, Tryz.ntmps89
  go_wp2_with fail
  go_loopw [8] (fun x wr => ∃ k : Nat, k ≤ n ∧ x = .int .i64 k ∧ (∀ j s, j < k → l[j]? = some s → Dk.isName s = true) ∧ Below w.heap.size w wr) (fun x _ => n - (intOf x).toNat)
  case atStart => exact ⟨0, by omega, rfl, fun j l hj => by omega, Below.refl _ _⟩
  case round =>
    obtain ⟨k, hk, rfl, hno, hbel⟩ := hrel
    have Hno := Lib.hid hno
    clear hno
    by_cases hlt : k < n
    · obtain ⟨ad, s, rfl, hb, hls, hc⟩ := (H.out.below (hbel.mono hB)).in_ hlt
      have HS := Lib.hid hls
      have K := Lib.hid (asked1_any hN s wr (HL.out s (List.mem_of_getElem? hls)))
      clear hls
      go_wp2_with fail
      refine K.out.mono ?_
      rintro x w2 ⟨rfl, hb2⟩
      have B2 := Lib.hid (hbel.trans (hb2.mono hbel.size))
      clear hb2
      cases ht : Dk.isName s
      · have HT := Lib.hid (Dk.badAt_some HS.out ht Hno.out)
        clear ht
        go_wp2
        go_ret
        rw [HT.out]
        exact ⟨rfl, B2.out⟩
      · have HN := Lib.hid (show ∀ j s, j < k + 1 → l[j]? = some s → Dk.isName s = true from fun j l2 hj hl2 => by
          rcases Nat.lt_or_ge j k with h1 | h1
          · exact Hno.out j l2 h1 hl2
          · have : j = k := by omega
            subst this
            rw [HS.out] at hl2
            cases hl2
            exact ht)
        clear ht
        go_wp2
        go_roundw
        case rel => exact ⟨k + 1, by omega, by go_num, HN.out, B2.out⟩
        case measure => simp [intOf]; omega
    · have HT := Lib.hid (Dk.badAt_none (l := l) (fun j s hj hl => Hno.out j s (by have := H.out.len; omega) hl))
      go_wp2
      go_ret
      rw [HT.out]
      exact ⟨rfl, hbel⟩
set_option maxRecDepth 100000 in
set_option maxHeartbeats 1000000 in
theorem anyBad_any (hN : NameOk) (A : Option Addr) (n c : Nat) (l : List ByteArray) (B : Nat) (w : World) (h : StrsAt w B A n l) (hB : B ≤ w.heap.size) (hn : n ≤ maxLen) (hl : ∀ s ∈ l, s.size ≤ 9223372036854775807) :
    Calls Tryz.prog 92 #[.slice A n c, .func (.func 93) #[] #[]] w fun x w' => x = .returned (.bool (l.any fun s => !Dk.isName s)) ∧ Below w.heap.size w w' := by
  have KB := Lib.hid (bad_any hN A n c l B w h hB hn hl)
  have HA := Lib.hid (Dk.bad_any l)
  clear h
  generalize Dk.badI l = bi at *
  go_enter Tryz.func92, Tryz.ntmps92
  go_wp2_with fail
  refine KB.out.mono ?_
  rintro x w2 ⟨rfl, hb⟩
  go_wp2
  go_ret
  rw [← HA.out]
  exact ⟨rfl, hb⟩
set_option maxRecDepth 100000 in
set_option maxHeartbeats 1000000 in
theorem asked_any (hN : NameOk) (w : World) (g m : Nat) (d : Dk.Disk) (h : DiskAt w g m d) (A : Option Addr) (n c : Nat) (l : List ByteArray) (hr : StrsAt w w.heap.size A n l) (hn : n ≤ maxLen) (hl : ∀ s ∈ l, s.size ≤ 9223372036854775807) :
    Calls Tryz.prog 50 #[.pointer (some ⟨g, 0, none⟩), .slice A n c] w fun e w' => e = .returned (.int .i64 (Dk.asked d.on l)) ∧ Below w.heap.size w w' := by
  have KO := Lib.hid (on_any w g m d h)
  have KB := Lib.hid (anyBad_any hN A n c l w.heap.size w hr (Nat.le_refl _) hn hl)
  clear h hr
  have HD := Lib.hid (show Dk.asked d.on l = if d.on = false then 20 else if (l.any fun s => !Dk.isName s) = true then 21 else 0 from rfl)
  generalize Dk.asked d.on l = r at *
  generalize hon : d.on = on at *
  go_enter Tryz.func50, Tryz.ntmps50
  go_wp2_with fail
  refine KO.out.mono ?_
  rintro x w2 ⟨rfl, rfl⟩
  cases on with
  | false =>
    go_wp2
    go_ret
    rw [HD.out]
    exact ⟨rfl, Below.refl _ _⟩
  | true =>
    go_wp2_with fail
    refine KB.out.mono ?_
    rintro x w3 ⟨rfl, hb⟩
    cases ha : (l.any fun s => !Dk.isName s) with
    | false =>
      have HD2 := Lib.hid (show r = 0 by rw [HD.out, ha]; rfl)
      clear ha
      go_wp2
      go_ret
      rw [HD2.out]
      exact ⟨rfl, hb⟩
    | true =>
      have HD2 := Lib.hid (show r = 21 by rw [HD.out, ha]; rfl)
      clear ha
      go_wp2
      go_ret
      rw [HD2.out]
      exact ⟨rfl, hb⟩
end Go.Proofs.YtlbdpcokddpjpaaGreatDoor

/- What disk.Crash returns, in whatever order the files come. -/
namespace Go.Proofs.YtlbdpcokddpjpaaGreatDoor
set_option linter.unusedVariables false
open Go Go.RowKit Go.BigFrame Go.MapKept Go.ChangeMaps
namespace Dk
/-- How many bytes that are not synced a crash leaves. -/
def kept (cut : Int) (f : File) : Nat := (min (max cut 0) ((f.data.size : Int) - (f.synced : Int))).toNat
def headL (cut : Int) (f : File) : List UInt8 := f.data.data.toList.take (f.synced + kept cut f)
def tornL (cut flip : Int) (f : File) : List UInt8 := if 0 < kept cut f ∧ 1 ≤ flip ∧ flip ≤ 255 then (headL cut f).modify (f.synced + kept cut f - 1) (· ^^^ UInt8.ofNat flip.toNat) else headL cut f
def torn (cut flip : Int) (f : File) : ByteArray := ⟨(tornL cut flip f).toArray⟩
def crashF (cut flip : Int) (f : File) : File := ⟨torn cut flip f, (torn cut flip f).size⟩
def crashL (cut flip : Int) (l : List (ByteArray × File)) : List (ByteArray × File) := l.map fun p => (p.1, crashF cut flip p.2)
def crash (d : Disk) (cut flip : Int) : Disk := if d.on then { d with on := false, files := crashL cut flip d.files } else d
theorem kept_le {cut : Int} {f : File} (h : f.synced ≤ f.data.size) : f.synced + kept cut f ≤ f.data.size := by unfold kept; omega
theorem tornL_length {cut flip : Int} {f : File} (h : f.synced ≤ f.data.size) : (tornL cut flip f).length = f.synced + kept cut f := by
  have h1 := kept_le (cut := cut) h
  have h2 : f.data.data.toList.length = f.data.size := by simp
  have h3 : (headL cut f).length = f.synced + kept cut f := by
    unfold headL
    rw [List.length_take]
    omega
  unfold tornL
  split
  · rw [List.length_modify]; exact h3
  · exact h3
theorem torn_size {cut flip : Int} {f : File} (h : f.synced ≤ f.data.size) : (torn cut flip f).size = f.synced + kept cut f := by
  show (tornL cut flip f).toArray.size = _
  rw [List.size_toArray]
  exact tornL_length h
theorem get_crashL {cut flip : Int} (x : ByteArray) (l : List (ByteArray × File)) : get (crashL cut flip l) x = (get l x).map (crashF cut flip) := by
  unfold crashL
  induction l with
  | nil => rfl
  | cons p l ih =>
    rw [List.map_cons, get_cons, get_cons, ih]
    split <;> rfl
theorem Fine.crash {d : Disk} (h : Fine d) (cut flip : Int) : Fine (crash d cut flip) := by
  unfold Dk.crash
  split
  · refine ⟨fun p hp => ?_, by simpa [crashL] using h.few, h.room, h.fuse⟩
    obtain ⟨q, hq, rfl⟩ := List.mem_map.1 hp
    have hf := h.file q hq
    show (torn cut flip q.2).size ≤ (torn cut flip q.2).size ∧ (torn cut flip q.2).size ≤ 1048576
    have := torn_size (cut := cut) (flip := flip) hf.1
    have := kept_le (cut := cut) hf.1
    omega
  · exact h
end Dk
/-- The files under way: what was seen is crashed, the rest stands as it was. -/
def Half (cut flip : Int) (L : List (ByteArray × Dk.File × Nat)) (seen : Array Nat) (es : Array MapEntry) : Prop :=
  es.toList = L.map fun q => ⟨.string q.1, fileV (if seen.contains q.2.2 then Dk.crashF cut flip q.2.1 else q.2.1), q.2.2⟩
theorem half_start {l : List (ByteArray × Dk.File)} {es : Array MapEntry} (hl : es.toList.map (fun e => (e.key, e.val)) = l.map fun p => (Value.string p.1, fileV p.2)) :
    ∃ L : List (ByteArray × Dk.File × Nat), L.map (fun q => (q.1, q.2.1)) = l ∧ ∀ cut flip, Half cut flip L #[] es := by
  have key : ∀ (es : List MapEntry) (l : List (ByteArray × Dk.File)), es.map (fun e => (e.key, e.val)) = l.map (fun p => (Value.string p.1, fileV p.2)) →
      ∃ L : List (ByteArray × Dk.File × Nat), L.map (fun q => (q.1, q.2.1)) = l ∧ es = L.map fun q => ⟨.string q.1, fileV q.2.1, q.2.2⟩ := by
    intro es
    induction es with
    | nil =>
      intro l h
      cases l with
      | nil => exact ⟨[], rfl, rfl⟩
      | cons p l => cases h
    | cons e es ih =>
      intro l h
      cases l with
      | nil => cases h
      | cons p l =>
        simp only [List.map_cons, List.cons.injEq, Prod.mk.injEq] at h
        obtain ⟨L, h1, h2⟩ := ih l h.2
        exact ⟨(p.1, p.2, e.born) :: L, by simp [h1], by simp [← h2, ← h.1.1, ← h.1.2]⟩
  obtain ⟨L, h1, h2⟩ := key es.toList l hl
  exact ⟨L, h1, fun cut flip => by unfold Half; rw [h2]; simp⟩
theorem half_end {cut flip : Int} {L : List (ByteArray × Dk.File × Nat)} {seen : Array Nat} {es : Array MapEntry} (h : Half cut flip L seen es) (h0 : (leftOf es seen).size = 0) :
    es.toList.map (fun e => (e.key, e.val)) = (Dk.crashL cut flip (L.map fun q => (q.1, q.2.1))).map fun p => (Value.string p.1, fileV p.2) := by
  unfold Half at h
  have hall : ∀ q ∈ L, seen.contains q.2.2 = true := by
    intro q hq
    have he : (⟨.string q.1, fileV (if seen.contains q.2.2 then Dk.crashF cut flip q.2.1 else q.2.1), q.2.2⟩ : MapEntry) ∈ es.toList := by rw [h]; exact List.mem_map.2 ⟨q, hq, rfl⟩
    cases hs : seen.contains q.2.2 with
    | true => rfl
    | false =>
      have : (⟨.string q.1, fileV (if seen.contains q.2.2 then Dk.crashF cut flip q.2.1 else q.2.1), q.2.2⟩ : MapEntry) ∈ (leftOf es seen).toList := by
        unfold leftOf
        rw [Array.toList_filter]
        exact List.mem_filter.2 ⟨he, by simp only [hs]; rfl⟩
      have hz : (leftOf es seen).toList = [] := by
        apply List.eq_nil_of_length_eq_zero
        simpa using h0
      rw [hz] at this
      cases this
  rw [h]
  unfold Dk.crashL
  rw [List.map_map, List.map_map, List.map_map]
  apply List.map_congr_left
  intro q hq
  simp only [Function.comp, hall q hq, if_true]
/-- One that is left: what it is. -/
theorem half_at {cut flip : Int} {L : List (ByteArray × Dk.File × Nat)} {seen : Array Nat} {es : Array MapEntry} {e : MapEntry} (h : Half cut flip L seen es) (he : Comes es seen e) :
    ∃ q ∈ L, e = ⟨.string q.1, fileV q.2.1, q.2.2⟩ ∧ seen.contains q.2.2 = false := by
  have hm := left_mem he
  have hs : seen.contains e.born = false := by
    unfold Comes leftOf at he
    rw [Array.toList_filter] at he
    simpa using (List.mem_filter.1 he).2
  unfold Half at h
  rw [h] at hm
  obtain ⟨q, hq, rfl⟩ := List.mem_map.1 hm
  simp only at hs
  refine ⟨q, hq, ?_, hs⟩
  simp only [hs, Bool.false_eq_true, if_false]
/-- The store of the round. -/
theorem half_put {P : Program} {w : World} {b clock : Nat} {t kt et : TypeId} {cut flip : Int} {L : List (ByteArray × Dk.File × Nat)} {seen : Array Nat} {es : Array MapEntry} (h : Half cut flip L seen es) (hs : Stamped es clock)
    (hb : w.heap[b]? = some (.map es clock)) (hu : P.underlying t = some (.map kt et)) (hd : P.underlying kt = some .string) (q : ByteArray × Dk.File × Nat) (hq : q ∈ L) (hn : seen.contains q.2.2 = false) :
    ∃ es', (Instr.mapUpdate t (.map (some b)) (.string q.1) (fileV (Dk.crashF cut flip q.2.1))).run P w = .ok () { w with heap := w.heap.setIfInBounds b (.map es' clock) } ∧ Half cut flip L (seen.push q.2.2) es' ∧ Stamped es' clock := by
  have hl : es.toList.map (fun e => (e.key, e.val)) = (L.map fun q => (q.1, if seen.contains q.2.2 then Dk.crashF cut flip q.2.1 else q.2.1)).map fun p => (Value.string p.1, fileV p.2) := by
    unfold Half at h
    rw [h, List.map_map, List.map_map]
    rfl
  have hkeys : (Dk.keys (L.map fun q => (q.1, if seen.contains q.2.2 then Dk.crashF cut flip q.2.1 else q.2.1))).Nodup := by
    have h2 := hs.2.2
    have e : es.toList.map (·.key) = (Dk.keys (L.map fun q => (q.1, if seen.contains q.2.2 then Dk.crashF cut flip q.2.1 else q.2.1))).map Value.string := by
      have := congrArg (List.map Prod.fst) hl
      simpa [Dk.keys, List.map_map, Function.comp_def] using this
    rw [e] at h2
    exact List.Pairwise.of_map Value.string (fun a b hab e => hab (by rw [e])) h2
  rcases find_of hl hkeys q.1 with ⟨h1, _⟩ | ⟨j, a0, h1, hj, h2, e, he, hk⟩
  · exact absurd rfl (Dk.get_none.1 h1 _ (List.mem_map.2 ⟨q, hq, rfl⟩))
  · have hj' : es[j]? = some e := by simpa using he
    have hkey : ∀ e', es[j]? = some e' → ({ key := .string q.1, val := fileV (Dk.crashF cut flip q.2.1), born := e'.born } : MapEntry).key = e'.key := fun e' he' => by rw [hj'] at he'; cases he'; exact hk.symm
    refine ⟨es.modify j fun e => { e with key := .string q.1, val := fileV (Dk.crashF cut flip q.2.1) }, by simp [Instr.mapUpdate, run_underlying hu, MapKept.run_getObj_map hb, run_checkKey (d := .string) hd (k := .string q.1) trivial, run_findKey hd h2, hj', hk, run_keyThatStays (d := .string) (k := .string q.1) trivial, MapKept.run_setObj_map _ hb, Result.andThen], ?_, stamped_modify hs _ _ (fun _ _ => rfl) (fun e' _ he' => hkey e' he')⟩
    have hnb := hs.2.1
    have hnk := hs.2.2
    unfold Half at h ⊢
    -- where q stands
    have hLj : ∃ r, L[j]? = some r ∧ r.1 = q.1 := by
      have := he
      rw [h, List.getElem?_map] at this
      cases hr : L[j]? with
      | none => rw [hr] at this; cases this
      | some r =>
        rw [hr] at this
        simp only [Option.map_some, Option.some.injEq] at this
        refine ⟨r, rfl, ?_⟩
        rw [← this] at hk
        injection hk
    obtain ⟨r, hr, hrq⟩ := hLj
    have hrk : (L.map (·.1)).Nodup := by
      have e1 : Dk.keys (L.map fun q => (q.1, if seen.contains q.2.2 then Dk.crashF cut flip q.2.1 else q.2.1)) = L.map (·.1) := by unfold Dk.keys; rw [List.map_map]; rfl
      rw [← e1]; exact hkeys
    have uniq : ∀ (i i' : Nat) (x y : ByteArray × Dk.File × Nat), L[i]? = some x → L[i']? = some y → x.1 = y.1 → i = i' := by
      intro i i' x y hx hy hxy
      obtain ⟨hi, ex⟩ := List.getElem?_eq_some_iff.1 hx
      obtain ⟨hi', ey⟩ := List.getElem?_eq_some_iff.1 hy
      rcases Nat.lt_trichotomy i i' with hlt | heq | hlt
      · exact (List.pairwise_iff_getElem.1 hrk i i' (by simpa using hi) (by simpa using hi') hlt (by simp only [List.getElem_map, ex, ey, hxy])).elim
      · exact heq
      · exact (List.pairwise_iff_getElem.1 hrk i' i (by simpa using hi') (by simpa using hi) hlt (by simp only [List.getElem_map, ex, ey, hxy])).elim
    obtain ⟨jq, hjq⟩ := List.getElem?_of_mem hq
    have hjj : j = jq := uniq j jq r q hr hjq hrq
    subst hjj
    have hrq' : r = q := Option.some.inj (hr.symm.trans hjq)
    subst hrq'
    have hbn : (L.map fun q => q.2.2).Nodup := by
      rw [h, List.map_map] at hnb
      exact hnb
    rw [Array.toList_modify, h]
    apply List.ext_getElem?
    intro i
    rw [List.getElem?_modify, List.getElem?_map, List.getElem?_map]
    cases hi : L[i]? with
    | none => simp
    | some x =>
      simp only [Option.map_some]
      by_cases hij : j = i
      · subst hij
        rw [hr] at hi
        cases hi
        simp
      · have hb2 : x.2.2 ≠ r.2.2 := by
          intro hb2
          obtain ⟨hi1, ex⟩ := List.getElem?_eq_some_iff.1 hi
          obtain ⟨hi2, ey⟩ := List.getElem?_eq_some_iff.1 hr
          rcases Nat.lt_or_ge i j with hlt | hge
          · exact List.pairwise_iff_getElem.1 hbn i j (by simpa using hi1) (by simpa using hi2) hlt (by simp [ex, ey, hb2])
          · exact List.pairwise_iff_getElem.1 hbn j i (by simpa using hi2) (by simpa using hi1) (by omega) (by simp [ex, ey, hb2])
        have hc : (seen.push r.2.2).contains x.2.2 = seen.contains x.2.2 := by
          rw [Array.contains_push]
          simp [hb2]
        simp only [hij, if_false, hc]
        rfl
end Go.Proofs.YtlbdpcokddpjpaaGreatDoor
