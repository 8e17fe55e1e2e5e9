/- Sets of arrays of ints that the call itself has made: what is in, what a store puts in. Plain lemmas. -/
import Derived.Test.YtjbhlojfmcldjabWords
import Derived.Maps.OwnSet
import Derived.WideKeyPair
import Derived.DeepKeys4
import Derived.MapViews
namespace Go.Proofs.Ytjbhlojfmcldjab
set_option linter.unusedVariables false
open Go Go.RowKit Go.WideMaps
open Go.Maps (Keyed IsMap)
theorem keyOf_one {P : Program} {k e : TypeId} {q : IntKind} (A : ArrKey P k e 1) (he : P.underlying e = some (.int q)) (hsz : ∃ m, P.types.size = m + 1) {a : Int} (wa : (Lit.int q a).wf = true) :
    keyOf P k (.agg #[.int q a]) = some (.string (keyBytes [.int q a])) := by
  have hkt := A.keyType hsz
  obtain ⟨m, hm⟩ := hsz
  unfold keyOf
  simp only [A.hu]
  rw [if_pos (by simp [hkt, Value.formed, A.hu, A.size]), hm]
  unfold Program.keyLits
  simp only [A.hu, Value.cells]
  rw [if_pos (by rw [A.size]; rfl), show List.range 1 = [0] from rfl, List.mapM_cons, List.mapM_nil]
  simp [A.one, Program.keyLits, he, wa]
theorem laidOutS : laidOutB Try.prog = true := by kernel_rfl
theorem sizeS : ∃ m, Try.prog.types.size = m + 1 := ⟨Try.prog.types.size - 1, by have : 0 < Try.prog.types.size := of_decide_eq_true (by kernel_rfl); omega⟩
theorem arr1 : ArrKey Try.prog 57 3 1 := ⟨Try.underlying57, by kernel_rfl, by kernel_rfl, by kernel_rfl⟩
theorem arr2 : ArrKey Try.prog 67 3 2 := ⟨Try.underlying67, by kernel_rfl, by kernel_rfl, by kernel_rfl⟩
theorem law1 : Keyed Try.prog 57 := Keyed.of_law (deep_law_laid laidOutS (m := 3) (by omega) (of_decide_eq_true (by kernel_rfl)) (by kernel_rfl) (by rw [Try.underlying57]))
theorem law2 : Keyed Try.prog 67 := Keyed.of_law (deep_law_laid laidOutS (m := 3) (by omega) (of_decide_eq_true (by kernel_rfl)) (by kernel_rfl) (by rw [Try.underlying67]))
theorem key1 {a : Int} (wa : (Lit.int .i64 a).wf = true) : keyOf Try.prog 57 (.agg #[.int .i64 a]) = some (.string (keyBytes [.int .i64 a])) := keyOf_one arr1 Try.underlying3 sizeS wa
theorem key2 {a b : Int} (wa : (Lit.int .i64 a).wf = true) (wb : (Lit.int .i64 b).wf = true) : keyOf Try.prog 67 (.agg #[.int .i64 a, .int .i64 b]) = some (.string (keyBytes [.int .i64 a, .int .i64 b])) := keyOf_pair arr2 Try.underlying3 sizeS wa wb
theorem zeroU (w : World) : (zeroValue 55).run Try.prog w = .ok (.agg #[]) w := by kernel_rfl
/-- Block b is a set of keys of type k; S tells of every key whether it is in. -/
def SetIs (w : World) (k : TypeId) (b n : Nat) (S : Value → Prop) : Prop :=
  ∃ D, w.ownsMap Try.prog k (unitElem (H := Unit)) b n D ∧ IsMap D ∧ ∀ v kl, keyOf Try.prog k v = some kl → (Maps.has D kl = true ↔ S v)
section
variable {w w' : World} {k : TypeId} {b n : Nat} {S : Value → Prop}
theorem SetIs.made (w : World) (k : TypeId) : SetIs (w.alloc (.map #[] 0)) k w.heap.size 0 (fun _ => False) :=
  ⟨.map [], World.ownsMap_made _ _ _ _, Maps.isMap_empty, fun v kl _ => by rw [Maps.has_eq]; simp⟩
theorem SetIs.lt (h : SetIs w k b n S) : b < w.heap.size := by
  obtain ⟨D, h, _⟩ := h
  exact h.lt
theorem SetIs.keep (h : SetIs w k b n S) (hb : w'.heap[b]? = w.heap[b]?) : SetIs w' k b n S := by
  obtain ⟨D, ⟨es, clock, h1, h2⟩, h3⟩ := h
  exact ⟨D, ⟨es, clock, hb.trans h1, h2⟩, h3⟩
theorem SetIs.below {C : Nat} (h : SetIs w k b n S) (hb : Below C w w') (hC : b < C) : SetIs w' k b n S := h.keep (hb.block b hC)
theorem SetIs.alloc (h : SetIs w k b n S) (o : Obj) : SetIs (w.alloc o) k b n S := h.keep (Below.heap_alloc w o b h.lt)
theorem SetIs.mono {n' : Nat} (h : SetIs w k b n S) (hn : n ≤ n') : SetIs w k b n' S := by
  obtain ⟨D, h1, h2⟩ := h
  exact ⟨D, h1.mono hn, h2⟩
theorem SetIs.say (h : SetIs w k b n S) {S' : Value → Prop} (he : ∀ v, S v ↔ S' v) : SetIs w k b n S' := by
  obtain ⟨D, h1, h2, h3⟩ := h
  exact ⟨D, h1, h2, fun v kl hk => (h3 v kl hk).trans (he v)⟩
end
section
variable {w : World} {ops : Array Oper} {rest : List Oper} {o : Oper} {a : Act} {Q : Exit → Act → World → Prop}
/-- 'v, ok := m[k]'. -/
theorem wpList_set_lookup (hg : o.guard = none) (m x : Operand) (t k : TypeId) (hop : o.op = Op.lookup t m x true) (K : Keyed Try.prog k) (ht : Try.prog.underlying t = some (.map k 55)) (b n : Nat) (S : Value → Prop)
    (hm : a.eval m = .map (some b)) (hset : SetIs w k b n S) (v : Value) (kl : Lit) (hx : a.eval x = v) (hkey : keyOf Try.prog k v = some kl) (r : Bool) (hr : r = true ↔ S v)
    (hK : wpList Try.prog ops Q rest (a.put o.dst (.tuple #[.agg #[], .bool r])) w) : wpList Try.prog ops Q (o :: rest) a w := by
  obtain ⟨D, hown, _, hs⟩ := hset
  refine wpList_lookup_own_unit w hg m x t hop k 55 K ht (zeroU w) b n D hm hown v kl hx hkey ?_
  have : Maps.has D kl = r := by
    rw [Bool.eq_iff_iff, hs v kl hkey, hr]
  rw [this]
  exact hK
/-- 'm[k] = struct{}{}'. -/
theorem wpList_set_put (hg : o.guard = none) (m x u : Operand) (t k : TypeId) (hop : o.op = Op.mapUpdate t m x u) (K : Keyed Try.prog k) (ht : Try.prog.underlying t = some (.map k 55)) (b n : Nat) (S : Value → Prop)
    (hm : a.eval m = .map (some b)) (hset : SetIs w k b n S) (hn : n < maxLen) (v : Value) (kl : Lit) (hx : a.eval x = v) (hu : a.eval u = .agg #[]) (hkey : keyOf Try.prog k v = some kl)
    (hK : ∀ w', SetIs w' k b (n + 1) (fun z => z = v ∨ S z) → w.grownBy w' (some b) → wpList Try.prog ops Q rest (a.put o.dst undef) w') : wpList Try.prog ops Q (o :: rest) a w := by
  obtain ⟨D, hown, hmap, hs⟩ := hset
  refine wpList_mapUpdate_own w hg m x u t hop k 55 K ht (unitElem (H := Unit)) b n D hm hown hn v (.agg #[]) kl hx hu hkey (.agg []) [] unitElem_mk ?_
  intro w' hown' hgr
  refine hK w' ⟨_, hown', hmap.put _ _, fun z kz hz => ?_⟩ hgr
  by_cases he : kz = kl
  · subst he
    rw [Maps.has_put_same hmap (K.key hz)]
    simp [K.inj hz hkey]
  · rw [Maps.has_put_other he, hs z kz hz]
    have : z ≠ v := fun e => by subst e; rw [hz] at hkey; cases hkey; exact he rfl
    simp [this]
end
/-- Texts that the call itself has gathered. -/
def OwnS (w : World) (B : Nat) (v : Value) (l : List ByteArray) : Prop := w.ownsRow B 9 1 v l.length (l.map Value.string)
theorem infoStr : (Try.prog.info? 9).map (fun i => (i.zero, i.size, i.bytes)) = some (some (.string ByteArray.empty), 1, 16) := by kernel_rfl
section
variable {w w' : World} {B B' : Nat} {v : Value} {l : List ByteArray}
theorem OwnS.nil (w : World) (B : Nat) : OwnS w B (.slice none 0 0) [] := World.ownsRow_nil _ _ _ _
theorem OwnS.alloc (h : OwnS w B v l) (o : Obj) : OwnS (w.alloc o) B v l := World.ownsRow.alloc h o
theorem OwnS.below {C : Nat} (h : OwnS w B v l) (hb : Below C w w') (hC : w.heap.size ≤ C) : OwnS w' B v l := by
  obtain ⟨h1, h2⟩ := h
  refine ⟨h1, ?_⟩
  rcases h2 with h2 | ⟨g, cap, cur, hv, hg, hh, r⟩
  · exact .inl h2
  · have hlt : g < w.heap.size := by
      rcases Nat.lt_or_ge g w.heap.size with h | h
      · exact h
      · rw [Array.getElem?_eq_none h] at hh; cases hh
    exact .inr ⟨g, cap, cur, hv, hg, by rw [hb.block g (by omega)]; exact hh, r⟩
theorem OwnS.grown {b : Nat} (h : OwnS w B v l) (hb : w.grownBy w' (some b)) (hlt : b < B) : OwnS w' B v l := by
  obtain ⟨h1, h2⟩ := h
  refine ⟨h1, ?_⟩
  rcases h2 with h2 | ⟨g, cap, cur, hv, hg, hh, r⟩
  · exact .inl h2
  · have hl : g < w.heap.size := by
      rcases Nat.lt_or_ge g w.heap.size with h | h
      · exact h
      · rw [Array.getElem?_eq_none h] at hh; cases hh
    exact .inr ⟨g, cap, cur, hv, hg, by rw [hb.block g hl (fun e => by cases e; omega)]; exact hh, r⟩
theorem Blk.ne_ {g g' : Nat} {t t' : TypeId} {cs cs' : Array Value} (h : Blk w g t cs) (h' : Blk w g' t' cs') (hne : t ≠ t') : g ≠ g' := by
  rintro rfl
  unfold Blk at h h'
  rw [h] at h'
  injection h' with h'
  injection h' with _ ht
  exact hne ht
theorem own_blk_ne {base : Nat} {e : TypeId} {size n g : Nat} {t : TypeId} {cs : Array Value} {xs : List Value} (h : w.ownsRow base e size v n xs) (hg : Blk w g t cs) (hne : e ≠ t) : some g ≠ v.ownBlock := by
  rcases h.2 with ⟨rfl, _⟩ | ⟨g', cap, cur, rfl, _, hh, _⟩
  · simp [Value.ownBlock]
  · intro he
    have : g' = g := by simpa [Value.ownBlock] using he.symm
    subst this
    exact Blk.ne_ (t := e) hh hg hne rfl
theorem newsS (w : World) (t : TypeId) (s : ByteArray) : ∀ j u, [s][j]? = some u → (w.alloc (.cells #[.string s] t)).cell? ((⟨w.heap.size, 0, none⟩ : Addr).add j) = some (Value.string u) := by
  intro j u hu
  match j, hu with
  | 0, hu =>
    cases hu
    rw [Addr.add_lit, Nat.zero_add, (Blk.new w t #[.string s]).cell]
    rfl
theorem wpList_append_str1 {w : World} {ops : Array Oper} {rest : List Oper} {o : Oper} {a : Act} {Q : Exit → Act → World → Prop} (hgd : o.guard = none) (s x : Operand)
    (ho : o.op = .call { callee := .builtin .append, args := #[s, x], argTypes := #[25, 25] })
    (B : Nat) (v : Value) (l : List ByteArray) (hs : a.eval s = v) (hown : OwnS w B v l)
    (ad : Addr) (u : ByteArray) (hx : a.eval x = .slice (some ad) 1 1) (hnews : ∀ j z, [u][j]? = some z → w.cell? (ad.add j) = some (Value.string z))
    (hbytes : l.length + 1 ≤ 8796093022208) (hbase : B ≤ w.heap.size)
    (h : ∀ v' w', OwnS w' B v' (l ++ [u]) → Below B w w' → w.grownBy w' v.ownBlock → wpList Try.prog ops Q rest (a.put o.dst v') w') : wpList Try.prog ops Q (o :: rest) a w := by
  obtain ⟨i, hi, hz, hs1, hb1⟩ := info_parts infoStr
  refine wpList_append_own w hgd s x 25 ho B 9 i (.string ByteArray.empty) 1 16 Try.underlying25 hi hz hs1 hb1 rfl (by omega) v l.length (l.map Value.string) hs hown ad 1 1 [Value.string u] hx (by simp)
    (fun j z hz => by
      rw [show [Value.string u] = [u].map Value.string from rfl, List.getElem?_map] at hz
      obtain ⟨b, hb, rfl⟩ := Option.map_eq_some_iff.1 hz
      exact hnews j b hb) (by intro z hz; simp at hz; subst hz; rfl) (by unfold maxLen; omega) (by omega) hbase ?_
  intro v' w' hown' hg _
  refine h v' w' ?_ ((Below.refl _ _).grown hg hbase (fun k hk => (World.ownsRow.lt hown k hk).1)) hg
  unfold OwnS
  rw [List.length_append, List.map_append]
  exact hown'
end
end Go.Proofs.Ytjbhlojfmcldjab
