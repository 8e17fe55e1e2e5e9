/- Part P3 of the proof: the statement that is proved stands in the text that ends with its name. No conditions beyond the card's. -/
import Derived.Test.YtmabpnmnppfgaaaGreatDoorWy
import Derived.Laws.OwnMore
import Derived.Maps.AppendAt
import Derived.Deep.AppendLies
import Derived.OwnWalk
import Derived.Lib.Builder
import Derived.Laws.Externs
import Derived.MapKept
import Derived.Maps.Keyed
import Derived.Maps.RangeRun
namespace Go.Proofs.YtmabpnmnppfgaaaGreatDoor
set_option linter.unusedVariables false
open Go.RowKit
theorem block_of_add (a : Addr) (n : Nat) : (a.add n).block = a.block := by unfold Addr.add; split <;> rfl
structure Enc (α : Type) where
  n : Nat
  pos : 0 < n
  R : World → (Nat → Prop) → List Value → α → Prop
  len : ∀ {w S cs x}, R w S cs x → cs.length = n
  keep : ∀ {w w' S S' cs x}, R w S cs x → (∀ b, S b → S' b) → (∀ p : Addr, S p.block → w'.cell? p = w.cell? p) → R w' S' cs x
  one : ∀ {w S cs x}, R w S cs x → ∀ u ∈ cs, u.oneCell' = true
def Enc.flat {α : Type} (f : α → List Value) (n : Nat) (pos : 0 < n) (ok : α → Prop) (hl : ∀ x, (f x).length = n) (ho : ∀ x, ∀ u ∈ f x, u.oneCell' = true) : Enc α where
  n := n
  pos := pos
  R := fun _ _ cs x => cs = f x ∧ ok x
  len := by rintro _ _ _ x ⟨rfl, _⟩; exact hl x
  keep := fun h _ _ => h
  one := by rintro _ _ _ x ⟨rfl, _⟩; exact ho x
def LAt {α : Type} (E : Enc α) (w : World) (S : Nat → Prop) (A : Option Addr) (m : Nat) (xs : List α) : Prop :=
  xs.length = m ∧ (0 < m → ∃ ad, A = some ad ∧ S ad.block ∧ ∀ j x, xs[j]? = some x → ∃ cs, E.R w S cs x ∧ ∀ i u, cs[i]? = some u → w.cell? (ad.add (j * E.n + i)) = some u)
def SOk (A : Option Addr) (m c : Nat) : Prop := (A = none → m = 0 ∧ c = 0) ∧ m ≤ c ∧ m ≤ 1048576 ∧ c ≤ maxLen
def Enc.list {α : Type} (E : Enc α) : Enc (List α) where
  n := 1
  pos := Nat.one_pos
  R := fun w S cs xs => ∃ A m c, cs = [.slice A m c] ∧ SOk A m c ∧ LAt E w S A m xs
  len := by rintro _ _ _ _ ⟨A, m, c, rfl, _⟩; rfl
  keep := by
    rintro w w' S S' _ xs ⟨A, m, c, rfl, hok, hl, h⟩ hS hc
    refine ⟨A, m, c, rfl, hok, hl, fun hm => ?_⟩
    obtain ⟨ad, rfl, hb, he⟩ := h hm
    refine ⟨ad, rfl, hS _ hb, fun j x hx => ?_⟩
    obtain ⟨cs, hr, hi⟩ := he j x hx
    exact ⟨cs, E.keep hr hS hc, fun i u hu => (hc _ (by rw [block_of_add]; exact hb)).trans (hi i u hu)⟩
  one := by
    rintro _ _ _ _ ⟨A, m, c, rfl, _⟩ u hu
    simp at hu
    subst hu
    rfl
def Old (w : World) : Nat → Prop := fun b => b < w.heap.size
def New (w w' : World) : Nat → Prop := fun b => w.heap.size ≤ b ∧ b < w'.heap.size
section
variable {α : Type} {E : Enc α} {w w' w'' : World} {S S' : Nat → Prop} {A : Option Addr} {m c : Nat} {xs : List α} {cs : List Value} {x : α} {v : Value}
theorem Enc.below (h : E.R w S cs x) (hb : Below w.heap.size w w') (hS : ∀ b, S b → b < w.heap.size) : E.R w' S cs x :=
  E.keep h (fun _ h => h) (fun p hp => hb.cell (hS _ hp))
theorem Enc.wide (h : E.R w S cs x) (hS : ∀ b, S b → S' b) : E.R w S' cs x := E.keep h hS (fun _ _ => rfl)
theorem Enc.old (h : E.R w (Old w) cs x) (hb : Below w.heap.size w w') : E.R w' (Old w') cs x :=
  E.keep h (fun _ h => Nat.lt_of_lt_of_le h hb.size) (fun p hp => hb.cell hp)
theorem LAt.len (h : LAt E w S A m xs) : xs.length = m := h.1
theorem LAt.keep (h : LAt E w S A m xs) (hS : ∀ b, S b → S' b) (hc : ∀ p : Addr, S p.block → w'.cell? p = w.cell? p) : LAt E w' S' A m xs := by
  refine ⟨h.1, fun hm => ?_⟩
  obtain ⟨ad, rfl, hb, he⟩ := h.2 hm
  refine ⟨ad, rfl, hS _ hb, fun j x hx => ?_⟩
  obtain ⟨cs, hr, hi⟩ := he j x hx
  exact ⟨cs, E.keep hr hS hc, fun i u hu => (hc _ (by rw [block_of_add]; exact hb)).trans (hi i u hu)⟩
theorem LAt.below (h : LAt E w S A m xs) (hb : Below w.heap.size w w') (hS : ∀ b, S b → b < w.heap.size) : LAt E w' S A m xs :=
  h.keep (fun _ h => h) (fun p hp => hb.cell (hS _ hp))
theorem LAt.wide (h : LAt E w S A m xs) (hS : ∀ b, S b → S' b) : LAt E w S' A m xs := h.keep hS (fun _ _ => rfl)
theorem LAt.in_ {k : Nat} (h : LAt E w S A m xs) (hk : k < m) : ∃ ad x cs, A = some ad ∧ S ad.block ∧ xs[k]? = some x ∧ E.R w S cs x ∧ ∀ i u, cs[i]? = some u → w.cell? (ad.add (k * E.n + i)) = some u := by
  obtain ⟨hl, h⟩ := h
  obtain ⟨ad, rfl, hb, he⟩ := h (by omega)
  have hx : xs[k]? = some (xs[k]'(by omega)) := List.getElem?_eq_getElem (by omega)
  obtain ⟨cs, hr, hi⟩ := he k _ hx
  exact ⟨ad, _, cs, rfl, hb, hx, hr, hi⟩
theorem LAt.nil : LAt E w S A 0 [] := ⟨rfl, fun h => absurd h (by omega)⟩
theorem SOk.none : SOk none 0 0 := ⟨fun _ => ⟨rfl, rfl⟩, Nat.le_refl _, by omega, by unfold maxLen; omega⟩
theorem Enc.list_nil : E.list.R w S [.slice none 0 0] [] := ⟨none, 0, 0, rfl, SOk.none, LAt.nil⟩
theorem SOk.le (h : SOk A m c) : m ≤ 1048576 := h.2.2.1
theorem SOk.cap (h : SOk A m c) : m ≤ c := h.2.1
theorem Enc.list_inv (h : E.list.R w S [v] xs) : ∃ A c, v = .slice A xs.length c ∧ SOk A xs.length c ∧ LAt E w S A xs.length xs := by
  obtain ⟨A, m, c, e, hok, hl⟩ := h
  have hm := hl.1
  subst hm
  simp at e
  exact ⟨A, c, e, hok, hl⟩
end
structure OwnE {α : Type} (E : Enc α) (T : TypeId) (w : World) (B : Nat) (S : Nat → Prop) (v : Value) (xs : List α) : Prop where
  row : ∃ cs, w.ownsRow B T E.n v xs.length cs ∧ ∀ j x, xs[j]? = some x → ∃ es, E.R w S es x ∧ ∀ i u, es[i]? = some u → cs[j * E.n + i]? = some u
  apart : ∀ g, v.ownBlock = some g → ¬ S g
  there : ∀ b, S b → b < w.heap.size
section
variable {α : Type} {E : Enc α} {T : TypeId} {w w' w'' : World} {S S' : Nat → Prop} {A : Option Addr} {B m c : Nat} {xs : List α} {cs : List Value} {x : α} {v : Value}
theorem OwnE.nil (hS : ∀ b, S b → b < w.heap.size) : OwnE E T w B S (.slice none 0 0) [] :=
  ⟨⟨[], ⟨by simp, .inl ⟨rfl, rfl⟩⟩, fun j x h => by simp at h⟩, fun g h => by simp [Value.ownBlock] at h, hS⟩
theorem OwnE.own_lt (h : OwnE E T w B S v xs) {g : Nat} (hg : v.ownBlock = some g) : B ≤ g ∧ g < w.heap.size := by
  obtain ⟨cs, ho, _⟩ := h.row
  have := World.ownsRow.lt ho g hg
  exact this
theorem ownsRow_blk {n size : Nat} (h : w.ownsRow B T size v n cs) (hb : ∀ g, v.ownBlock = some g → w'.heap[g]? = w.heap[g]?) : w'.ownsRow B T size v n cs := by
  refine ⟨h.1, ?_⟩
  rcases h.2 with h2 | ⟨g, cap, cur, rfl, hB, hh, r⟩
  · exact .inl h2
  · exact .inr ⟨g, cap, cur, rfl, hB, (hb g rfl).trans hh, r⟩
theorem OwnE.stay (h : OwnE E T w B S v xs) (hs : w.heap.size ≤ w'.heap.size) (hb : ∀ b, b < w.heap.size → (S b ∨ v.ownBlock = some b) → w'.heap[b]? = w.heap[b]?) : OwnE E T w' B S v xs := by
  obtain ⟨cs, ho, he⟩ := h.row
  refine ⟨⟨cs, ownsRow_blk ho (fun g hg => hb g (World.ownsRow.lt ho g hg).2 (.inr hg)), fun j x hx => ?_⟩, h.apart, fun b hb' => Nat.lt_of_lt_of_le (h.there b hb') hs⟩
  obtain ⟨es, hr, hi⟩ := he j x hx
  exact ⟨es, E.keep hr (fun _ h => h) (fun p hp => World.cell?_of_block (hb _ (h.there _ hp) (.inl hp))), hi⟩
theorem OwnE.below (h : OwnE E T w B S v xs) (hb : Below w.heap.size w w') : OwnE E T w' B S v xs :=
  h.stay hb.size (fun b hb' _ => hb.block b hb')
theorem OwnE.alloc (h : OwnE E T w B S v xs) (o : Obj) : OwnE E T (w.alloc o) B S v xs := h.below ((Below.refl _ _).alloc (Nat.le_refl _) o)
theorem OwnE.wide (h : OwnE E T w B S v xs) (hS : ∀ b, S b → S' b) (ha : ∀ g, v.ownBlock = some g → ¬ S' g) (ht : ∀ b, S' b → b < w.heap.size) : OwnE E T w B S' v xs := by
  obtain ⟨cs, ho, he⟩ := h.row
  refine ⟨⟨cs, ho, fun j x hx => ?_⟩, ha, ht⟩
  obtain ⟨es, hr, hi⟩ := he j x hx
  exact ⟨es, Enc.wide hr hS, hi⟩
theorem OwnE.len_le (h : OwnE E T w B S (.slice A m c) xs) : xs.length = m := by
  obtain ⟨cs, ho, _⟩ := h.row
  rcases ho.2 with ⟨h1, h2⟩ | ⟨g, cap, cur, hv, _⟩
  · injection h1 with _ e _
    omega
  · injection hv with _ e _
    omega
theorem OwnE.reads (h : OwnE E T w B S v xs) (hS : ∀ b, S b → S' b) (hv : ∀ g, v.ownBlock = some g → S' g) (hm : xs.length ≤ 1048576) : E.list.R w S' [v] xs := by
  obtain ⟨cs, ho, he⟩ := h.row
  rcases ho.2 with ⟨rfl, h2⟩ | ⟨g, cap, cur, rfl, hB, hh, hnc, hcm, hcs, htake⟩
  · rw [List.eq_nil_of_length_eq_zero h2]
    exact Enc.list_nil
  · refine ⟨_, _, _, rfl, ⟨(fun h => by cases h), hnc, hm, hcm⟩, rfl, fun _ => ⟨_, rfl, hv g rfl, fun j x hx => ?_⟩⟩
    obtain ⟨es, hr, hi⟩ := he j x hx
    refine ⟨es, Enc.wide hr hS, fun i u hu => ?_⟩
    exact World.ownsRow.cells ho (g := g) rfl _ _ (hi i u hu)
theorem wpList_append_E {P : Program} {ops : Array Oper} {rest : List Oper} {o : Oper} {a : Act} {Q : Exit → Act → World → Prop} (hgd : o.guard = none) (s x : Operand) (t : TypeId)
    (ho : o.op = .call { callee := .builtin .append, args := #[s, x], argTypes := #[t, t] })
    (i : TypeInfo) (z : Value) (bytes : Nat) (ht : P.underlying t = some (.slice T)) (hi : P.info? T = some i) (hz : i.zero = some z)
    (hsize : i.size = E.n) (hby : i.bytes = bytes) (hzs : z.cells.size = E.n)
    (hs : a.eval s = v) (hown : OwnE E T w B S v xs)
    (ad : Addr) (m c : Nat) (ys : List α) (hx : a.eval x = .slice (some ad) m c) (hl : ys.length = m)
    (hnews : ∀ j y, ys[j]? = some y → ∃ es, E.R w S es y ∧ ∀ i u, es[i]? = some u → w.cell? (ad.add (j * E.n + i)) = some u)
    (h63 : xs.length + m ≤ 1099511627776) (hbytes : bytes ≤ 128) (hbase : B ≤ w.heap.size)
    (h : ∀ v' w', OwnE E T w' B S v' (xs ++ ys) → Below B w w' → w.grownBy w' v.ownBlock → (v'.ownBlock = v.ownBlock ∨ v'.ownBlock = some w.heap.size) → wpList P ops Q rest (a.put o.dst v') w') : wpList P ops Q (o :: rest) a w := by
  obtain ⟨cs, hr, he⟩ := hown.row
  have hnew : ∃ ns : List Value, ns.length = m * E.n ∧ (∀ u ∈ ns, u.oneCell' = true) ∧ (∀ j u, ns[j]? = some u → w.cell? (ad.add j) = some u) ∧ ∀ j y, ys[j]? = some y → ∃ es, E.R w S es y ∧ ∀ i u, es[i]? = some u → ns[j * E.n + i]? = some u := by
    have key : ∀ k, k ≤ m → ∃ ns : List Value, ns.length = k * E.n ∧ (∀ u ∈ ns, u.oneCell' = true) ∧ (∀ j u, ns[j]? = some u → w.cell? (ad.add j) = some u) ∧ ∀ j y, j < k → ys[j]? = some y → ∃ es, E.R w S es y ∧ ∀ i u, es[i]? = some u → ns[j * E.n + i]? = some u := by
      intro k
      induction k with
      | zero => exact fun _ => ⟨[], by simp, by simp, by simp, fun j y hj => by omega⟩
      | succ k ih =>
        intro hk
        obtain ⟨ns, h1, h2, h3, h4⟩ := ih (by omega)
        have hy : ys[k]? = some (ys[k]'(by omega)) := List.getElem?_eq_getElem (by omega)
        obtain ⟨es, hre, hce⟩ := hnews k _ hy
        have hel := E.len hre
        refine ⟨ns ++ es, by rw [List.length_append, h1, hel, Nat.add_mul]; omega, fun u hu => ?_, fun j u hu => ?_, fun j y hj hyj => ?_⟩
        · rcases List.mem_append.1 hu with h | h
          · exact h2 u h
          · exact E.one hre u h
        · rcases Nat.lt_or_ge j ns.length with hj | hj
          · rw [List.getElem?_append_left hj] at hu
            exact h3 j u hu
          · rw [List.getElem?_append_right hj] at hu
            have := hce _ u hu
            rw [h1] at hj this
            rwa [show k * E.n + (j - k * E.n) = j from by omega] at this
        · rcases Nat.lt_or_ge j k with hj' | hj'
          · obtain ⟨es', hr', hc'⟩ := h4 j y hj' hyj
            refine ⟨es', hr', fun i u hu => ?_⟩
            have hi' : i < E.n := by
              have := (List.getElem?_eq_some_iff.1 hu).1
              rwa [E.len hr'] at this
            have : j * E.n + i < ns.length := by
              rw [h1]
              have h5 : (j + 1) * E.n ≤ k * E.n := Nat.mul_le_mul_right _ hj'
              rw [Nat.add_mul] at h5
              omega
            rw [List.getElem?_append_left this]
            exact hc' i u hu
          · have : j = k := by omega
            subst this
            rw [hy] at hyj
            cases hyj
            refine ⟨es, hre, fun i u hu => ?_⟩
            rw [List.getElem?_append_right (by rw [h1]; omega), h1, show j * E.n + i - j * E.n = i from by omega]
            exact hu
    obtain ⟨ns, h1, h2, h3, h4⟩ := key m (Nat.le_refl _)
    exact ⟨ns, h1, h2, h3, fun j y hy => h4 j y (by have := (List.getElem?_eq_some_iff.1 hy).1; omega) hy⟩
  obtain ⟨ns, hn1, hn2, hn3, hn4⟩ := hnew
  have hcl := hr.1
  refine wpList_append_own_at w hgd s x t ho B T i z E.n bytes ht hi hz hsize hby hzs E.pos v xs.length cs hs hr ad m c ns hx hn1 hn3 hn2 (by unfold maxLen; omega) ?_ hbase ?_
  · have h1 : (xs.length + m) * bytes ≤ 1099511627776 * 128 := Nat.mul_le_mul h63 hbytes
    omega
  intro v' w' hown' hg _ hwhere
  have hblk : ∀ b, S b → w'.heap[b]? = w.heap[b]? := fun b hb => hg.block b (hown.there b hb) (fun e => hown.apart b e.symm hb)
  refine h v' w' ⟨⟨cs ++ ns, ?_, fun j y hy => ?_⟩, fun g hg' => ?_, fun b hb => Nat.lt_of_lt_of_le (hown.there b hb) hg.size⟩ ((Below.refl _ _).grown hg hbase (fun k hk => (World.ownsRow.lt hr k hk).1)) hg hwhere
  · rw [List.length_append, hl]
    exact hown'
  · rcases Nat.lt_or_ge j xs.length with hj | hj
    · rw [List.getElem?_append_left hj] at hy
      obtain ⟨es, hre, hce⟩ := he j y hy
      refine ⟨es, E.keep hre (fun _ h => h) (fun p hp => World.cell?_of_block (hblk _ hp)), fun i u hu => ?_⟩
      have := hce i u hu
      rw [List.getElem?_append_left (List.getElem?_eq_some_iff.1 this).1]
      exact this
    · rw [List.getElem?_append_right hj] at hy
      obtain ⟨es, hre, hce⟩ := hn4 _ y hy
      refine ⟨es, E.keep hre (fun _ h => h) (fun p hp => World.cell?_of_block (hblk _ hp)), fun i u hu => ?_⟩
      have := hce i u hu
      rw [List.getElem?_append_right (by rw [hcl]; have : xs.length * E.n ≤ j * E.n := Nat.mul_le_mul_right _ hj; omega), hcl, show j * E.n + i - xs.length * E.n = (j - xs.length) * E.n + i from by rw [Nat.sub_mul]; have : xs.length * E.n ≤ j * E.n := Nat.mul_le_mul_right _ hj; omega]
      exact this
  · rcases hwhere with e | e
    · exact hown.apart g (e ▸ hg')
    · rw [e] at hg'
      cases hg'
      intro hb
      exact absurd (hown.there _ hb) (by omega)
theorem news_one {cs : List Value} {T' : TypeId} (hr : E.R w S cs x) (ht : ∀ b, S b → b < w.heap.size) : ∀ j y, [x][j]? = some y → ∃ es, E.R (w.alloc (.cells cs.toArray T')) S es y ∧ ∀ i u, es[i]? = some u → (w.alloc (.cells cs.toArray T')).cell? ((⟨w.heap.size, 0, none⟩ : Addr).add (j * E.n + i)) = some u := by
  intro j y hy
  have hj : j = 0 := by
    have := (List.getElem?_eq_some_iff.1 hy).1
    simp at this
    exact this
  subst hj
  simp at hy
  subst hy
  refine ⟨cs, E.keep hr (fun _ h => h) (fun p hp => World.cell?_alloc_lt w _ p (ht _ hp)), fun i u hu => ?_⟩
  rw [Addr.add_lit, Nat.zero_mul, Nat.zero_add, Nat.zero_add, (Blk.new w T' cs.toArray).cell]
  simpa using hu
end
def lenOf : Value → Nat
  | .slice _ n _ => n
  | _ => 0
section
variable {α : Type} {E : Enc α} {T : TypeId} {w w' w'' : World} {S S' : Nat → Prop} {A : Option Addr} {B m c : Nat} {xs : List α} {cs : List Value} {x : α} {v : Value}
theorem one_cell {l : List Value} (h : l.length = 1) : ∃ u, l = [u] := by
  match l, h with
  | [u], _ => exact ⟨u, rfl⟩
theorem LAt.in1 {k : Nat} (hE : E.n = 1) (h : LAt E w S A m xs) (hk : k < m) : ∃ ad x u, A = some ad ∧ S ad.block ∧ xs[k]? = some x ∧ E.R w S [u] x ∧ w.cell? (ad.add k) = some u := by
  obtain ⟨ad, x, cs, rfl, hb, hx, hr, hc⟩ := h.in_ hk
  obtain ⟨u, rfl⟩ := one_cell ((E.len hr).trans hE)
  refine ⟨ad, x, u, rfl, hb, hx, hr, ?_⟩
  have := hc 0 u rfl
  rwa [hE, Nat.mul_one, Nat.add_zero] at this
theorem OwnE.in1 {k : Nat} (hE : E.n = 1) (h : OwnE E T w B S v xs) (hk : k < xs.length) : ∃ g cap x u, v = .slice (some ⟨g, 0, none⟩) xs.length cap ∧ xs[k]? = some x ∧ E.R w S [u] x ∧ w.cell? ⟨g, k, none⟩ = some u ∧ xs.length ≤ cap ∧ cap ≤ maxLen := by
  obtain ⟨cs, ho, he⟩ := h.row
  have hx : xs[k]? = some xs[k] := List.getElem?_eq_getElem hk
  obtain ⟨es, hr, hi⟩ := he k _ hx
  obtain ⟨u, rfl⟩ := one_cell ((E.len hr).trans hE)
  have hu := hi 0 u rfl
  rw [hE, Nat.mul_one, Nat.add_zero] at hu
  have hcl := ho
  rcases ho.2 with ⟨rfl, h2⟩ | ⟨g, cap, cur, rfl, hB, hh, hnc, hcm, hcs, htake⟩
  · omega
  · refine ⟨g, cap, _, u, rfl, hx, hr, ?_, hnc, hcm⟩
    have := World.ownsRow.cells hcl (g := g) rfl _ _ hu
    rwa [Addr.add_lit, Nat.zero_add] at this
theorem OwnE.form (h : OwnE E T w B S v xs) : (v = .slice none 0 0 ∧ xs = []) ∨ ∃ g cap, v = .slice (some ⟨g, 0, none⟩) xs.length cap ∧ B ≤ g ∧ g < w.heap.size ∧ xs.length ≤ cap ∧ cap ≤ maxLen := by
  obtain ⟨cs, ho, he⟩ := h.row
  rcases ho.2 with ⟨rfl, h2⟩ | ⟨g, cap, cur, rfl, hB, hh, hnc, hcm, hcs, htake⟩
  · exact .inl ⟨rfl, List.eq_nil_of_length_eq_zero h2⟩
  · refine .inr ⟨g, cap, rfl, hB, ?_, hnc, hcm⟩
    rcases Nat.lt_or_ge g w.heap.size with h | h
    · exact h
    · rw [Array.getElem?_eq_none h] at hh; cases hh
theorem OwnE.take (h : OwnE E T w B S (.slice A m c) xs) (n : Nat) (hn : n ≤ m) : OwnE E T w B S (.slice A n c) (xs.take n) := by
  have hlen := h.len_le
  obtain ⟨cs, ho, he⟩ := h.row
  have hl : (xs.take n).length = n := by rw [List.length_take]; omega
  refine ⟨⟨cs.take (n * E.n), ⟨by rw [List.length_take, ho.1, hl]; exact Nat.min_eq_left (Nat.mul_le_mul_right _ (by omega)), ?_⟩, fun j y hy => ?_⟩, fun g hg => h.apart g ?_, h.there⟩
  · rcases ho.2 with ⟨h1, h2⟩ | ⟨g, cap, cur, hv, hB, hh, hnc, hcm, hcs, htake⟩
    · injection h1 with h3 h4 h5
      subst h3 h4 h5
      exact .inl ⟨by rw [show n = 0 by omega], by rw [hl]; omega⟩
    · injection hv with h3 h4 h5
      subst h3 h5
      refine .inr ⟨g, c, cur, by rw [hl], hB, hh, by rw [hl]; omega, hcm, hcs, ?_⟩
      rw [hl, ← htake, List.take_take, Nat.min_eq_left (Nat.mul_le_mul_right _ (by omega))]
  · have hj : j < n := by have := (List.getElem?_eq_some_iff.1 hy).1; omega
    rw [List.getElem?_take_of_lt hj] at hy
    obtain ⟨es, hr, hi⟩ := he j y hy
    refine ⟨es, hr, fun i u hu => ?_⟩
    have hi' : i < E.n := by
      have := (List.getElem?_eq_some_iff.1 hu).1
      rwa [E.len hr] at this
    rw [List.getElem?_take_of_lt]
    · exact hi i u hu
    · have h5 : (j + 1) * E.n ≤ n * E.n := Nat.mul_le_mul_right _ hj
      rw [Nat.add_mul] at h5
      omega
  · cases A with
    | none => simp [Value.ownBlock] at hg
    | some a => simpa [Value.ownBlock] using hg
end
end Go.Proofs.YtmabpnmnppfgaaaGreatDoor
namespace Go.Proofs.YtmabpnmnppfgaaaGreatDoor
set_option linter.unusedVariables false
open Go Go.RowKit
set_option maxHeartbeats 1000000 in
set_option maxRecDepth 100000 in
theorem check_used (b : Nat) (w : World) (h0 : w.cell? ⟨b, 0, none⟩ = some (.pointer (some ⟨b, 0, none⟩))) :
    Calls Tryz.prog 219 #[.pointer (some ⟨b, 0, none⟩)] w fun e w' => e = .returned (.tuple #[]) ∧ w' = w := by
  obtain ⟨j, hj, hjs⟩ : ∃ j, Tryz.prog.info? 165 = some j ∧ j.size = 2 := Option.map_eq_some_iff.1 (show (Tryz.prog.info? 165).map (·.size) = some 2 by kernel_rfl)
  go_enter Tryz.func219, Tryz.ntmps219
  go_wp2
  rw [Lib.run_neq_ptr_same w _ Tryz.underlying162 hj]
  go_wp2
  go_end0
  exact ⟨rfl, rfl⟩
set_option maxHeartbeats 1000000 in
set_option maxRecDepth 100000 in
theorem check_fresh (tw n : Nat) (hn : 0 < n) (hlies : liesAt Tryz.prog Tryz.prog.depth tw (n / Tryz.prog.cellsOf tw) 0 165 1 = true) (b : Nat) (w : World) (h0 : w.cell? ⟨b, 0, none⟩ = some (.pointer none)) (hsh : w.shape? b = some (tw, n)) (hfz : w.frozen? ⟨b, 0, none⟩ = false) :
    Calls Tryz.prog 219 #[.pointer (some ⟨b, 0, none⟩)] w fun e w' => e = .returned (.tuple #[]) ∧ w' = w.setCell ⟨b, 0, none⟩ (.pointer (some ⟨b, 0, none⟩)) := by
  obtain ⟨j, hj, hjs⟩ : ∃ j, Tryz.prog.info? 165 = some j ∧ j.size = 2 := Option.map_eq_some_iff.1 (show (Tryz.prog.info? 165).map (·.size) = some 2 by kernel_rfl)
  go_enter Tryz.func219, Tryz.ntmps219
  go_wp2
  rw [Lib.run_to_unsafe w ⟨b, 0, none⟩ Tryz.underlying162 Tryz.underlying349 hj (by rw [hjs]; decide) hsh hn]
  simp only [Result.andThen]
  rw [Oper.upon_value]
  go_wp2
  rw [run_callFunc_extern Tryz.func277 (by kernel_rfl) (by kernel_rfl) (by kernel_rfl) (e := Extern.AbiNoEscape.same) (by kernel_rfl)]
  rw [Lib.run_noEscape]
  simp only [Result.andThen]
  rw [Oper.upon_value]
  go_wp2
  rw [Lib.run_from_unsafe w ⟨b, 0, none⟩ Tryz.underlying349 Tryz.underlying162 hj hsh hlies]
  simp only [Result.andThen]
  rw [Oper.upon_value]
  go_wp2
  go_end0
  exact ⟨rfl, rfl⟩
end Go.Proofs.YtmabpnmnppfgaaaGreatDoor
namespace Go.Proofs.YtmabpnmnppfgaaaGreatDoor
set_option linter.unusedVariables false
open Go Go.RowKit
theorem Stays.grown {a b : World} (h : Stays a b) (row : Option Nat) : a.grownBy b row := ⟨h.os, h.tape, h.output, h.size, fun k hk _ => h.block k hk⟩
theorem grown_set (w : World) (g o : Nat) (u : Value) : w.grownBy (w.setCell ⟨g, o, none⟩ u) (some g) := ⟨rfl, rfl, rfl, by simp [World.setCell], fun k _ hne => Below.heap_setCell _ _ _ _ (fun e => hne (by rw [e]))⟩
theorem below_grown {w w' : World} {B g : Nat} (hg : w.grownBy w' (some g)) (hB : B ≤ w.heap.size) (h : B ≤ g) : Below B w w' := (Below.refl _ _).grown hg hB (fun k hk => by cases hk; exact h)
theorem Blk.setCells_get {t : TypeId} {b : Nat} : ∀ (vs : List Value) (o : Nat) (cs : Array Value) (w : World), Blk w b t cs → o + vs.length ≤ cs.size →
    ∃ cs2, Blk (w.setCells b o vs) b t cs2 ∧ cs2.size = cs.size ∧ ∀ i, cs2[i]? = if o ≤ i ∧ i < o + vs.length then vs[i - o]? else cs[i]?
  | [], o, cs, w, h, _ => ⟨cs, h, rfl, fun i => by simp; omega⟩
  | v :: vs, o, cs, w, h, hs => by
    simp only [List.length_cons] at hs
    obtain ⟨cs2, h1, h2, h3⟩ := Blk.setCells_get vs (o + 1) _ _ (h.set_ o v) (by simp; omega)
    refine ⟨cs2, h1, by rw [h2]; simp, fun i => ?_⟩
    rw [h3]
    by_cases hi : o + 1 ≤ i ∧ i < o + 1 + vs.length
    · rw [if_pos hi, if_pos (by simp only [List.length_cons]; omega), show i - o = (i - (o + 1)) + 1 by omega, List.getElem?_cons_succ]
    · rw [if_neg hi]
      by_cases ho : i = o
      · subst ho
        rw [if_pos (by simp only [List.length_cons]; omega), Nat.sub_self, Array.getElem?_setIfInBounds, if_pos rfl, if_pos (by omega), List.getElem?_cons_zero]
      · rw [if_neg (by simp only [List.length_cons]; omega)]
        simp [Ne.symm ho]
theorem Blk.setAll {w : World} {t : TypeId} {b : Nat} {cs cs' : Array Value} (h : Blk w b t cs) (hs : cs'.size = cs.size) : Blk (w.setCells b 0 cs'.toList) b t cs' := by
  obtain ⟨cs2, h1, h2, h3⟩ := Blk.setCells_get cs'.toList 0 cs w h (by simp; omega)
  have e : cs2 = cs' := by
    apply Array.ext_getElem?
    intro i
    rw [h3]
    by_cases hi : i < cs'.size
    · rw [if_pos (by simp; omega)]; simp
    · rw [if_neg (by simp; omega), Array.getElem?_eq_none (by omega), Array.getElem?_eq_none (by omega)]
  rwa [e] at h1
theorem grown_setCells (b : Nat) : ∀ (vs : List Value) (o : Nat) (w : World), w.grownBy (w.setCells b o vs) (some b)
  | [], _, w => (Stays.refl w).grown _
  | v :: vs, o, w => (grown_set w b o v).trans (grown_setCells b vs (o + 1) _)
theorem wpList_store_blk {P : Program} {ops : Array Oper} {rest : List Oper} {op : Oper} {a : Act} {w : World} {Q : Exit → Act → World → Prop} {t : TypeId} {cs cs' : Array Value} (hgd : op.guard = none) (ty : TypeId) (x y : Operand) (ho : op.op = .store ty x y)
    (b : Nat) (hx : a.eval x = .pointer (some ⟨b, 0, none⟩)) (hy : a.eval y = .agg cs') (hk : Blk w b t cs) (hs : cs'.size = cs.size) (hi : (P.info? ty).map (·.size) = some cs'.size) (h1 : cs'.all (·.oneCell') = true)
    (h : ∀ w', Blk w' b t cs' → w.grownBy w' (some b) → wpList P ops Q rest (a.put op.dst undef) w') : wpList P ops Q (op :: rest) a w :=
  wpList_store_mid hgd ty x y ho b 0 cs' hx hy (hk.there cs'.size (by omega)) hi h1 (h _ (hk.setAll hs) (grown_setCells b _ 0 w))
theorem oneCell_cells {v : Value} (h : v.oneCell' = true) : v.cells = #[v] := by
  cases v <;> first | rfl | (simp [Value.oneCell'] at h)
theorem wpList_store_one {P : Program} {ops : Array Oper} {rest : List Oper} {op : Oper} {a : Act} {w : World} {Q : Exit → Act → World → Prop} {t : TypeId} {cs : Array Value} (hgd : op.guard = none) (ty : TypeId) (x y : Operand) (ho : op.op = .store ty x y)
    (b i : Nat) (v : Value) (hx : a.eval x = .pointer (some ⟨b, i, none⟩)) (hy : a.eval y = v) (hk : Blk w b t cs) (hi : i < cs.size) (hsz : (P.info? ty).map (·.size) = some 1) (h1 : v.oneCell' = true)
    (h : ∀ w', Blk w' b t (cs.setIfInBounds i v) → w.grownBy w' (some b) → wpList P ops Q rest (a.put op.dst undef) w') : wpList P ops Q (op :: rest) a w := by
  refine wpList_plain hgd fun K' hK' => ?_
  have hs : (storeVar ty ⟨b, i, none⟩ v).run P w = .ok () (w.setCells b i [v]) := by
    have := run_storeCells_cells (P := P) b i [v] 0 w (fun j hj => by
      simp at hj
      subst hj
      rw [show i + 0 + 0 = i by omega, hk.cell]
      simp [hi]) (fun j hj => by
      simp at hj
      subst hj
      exact hk.frozen _) (fun u hu => by simp at hu; subst hu; exact h1)
    cases hq : P.info? ty with
    | none => simp [hq] at hsz
    | some i' =>
      have hs : i'.size = 1 := by simpa [hq] using hsz
      simp only [Nat.add_zero] at this
      simp [storeVar, sizeOf, typeInfo, hq, oneCell_cells h1, hs, this]
  unfold Oper.wp execOp
  simp only [ho, hx, hy, Instr.storeAt, Instr.sureAddr, Sem.run_bind, Sem.run_pure, Result.andThen_ok, hs]
  exact hK' _ _ (h _ (hk.set_ i v) (grown_set w b i v))
theorem blk_ne_ {w : World} {a b : Nat} {t t' : TypeId} {cs cs' : Array Value} (h : Blk w a t cs) (h' : Blk w b t' cs') (hne : t ≠ t') : a ≠ b := by
  rintro rfl
  have := h.symm.trans h'
  injection this with this
  injection this with _ this _
  exact hne this
end Go.Proofs.YtmabpnmnppfgaaaGreatDoor
namespace Go.Proofs.YtmabpnmnppfgaaaGreatDoor
set_option linter.unusedVariables false
open Go Go.RowKit Go.MapKept
def MapL {α : Type} (enc : α → Value) (w : World) (b : Nat) (l : List (ByteArray × α)) : Prop :=
  ∃ es clock, w.heap[b]? = some (.map es clock) ∧ Stamped es clock ∧ es.toList.map (fun e => (e.key, e.val)) = l.map fun p => (Value.string p.1, enc p.2)
namespace Dk
def get {α : Type} (l : List (ByteArray × α)) (x : ByteArray) : Option α := (l.find? fun p => decide (p.1 = x)).map (·.2)
def put {α : Type} (l : List (ByteArray × α)) (x : ByteArray) (a : α) : List (ByteArray × α) := if (get l x).isSome then l.map (fun p => if p.1 = x then (x, a) else p) else l ++ [(x, a)]
def del {α : Type} (l : List (ByteArray × α)) (x : ByteArray) : List (ByteArray × α) := l.filter fun p => decide (p.1 ≠ x)
def keys {α : Type} (l : List (ByteArray × α)) : List ByteArray := l.map (·.1)
section
variable {α : Type} {l : List (ByteArray × α)} {x y : ByteArray} {a : α}
theorem get_nil : get ([] : List (ByteArray × α)) x = none := rfl
theorem get_cons (p : ByteArray × α) : get (p :: l) x = if p.1 = x then some p.2 else get l x := by
  unfold get
  rw [List.find?_cons]
  by_cases h : p.1 = x
  · simp [h]
  · simp [h]
theorem get_none : get l x = none ↔ ∀ p ∈ l, p.1 ≠ x := by
  induction l with
  | nil => simp [get_nil]
  | cons p l ih =>
    rw [get_cons]
    by_cases h : p.1 = x
    · simp [h]
    · simp [h, ih]
theorem get_mem (h : get l x = some a) : (x, a) ∈ l := by
  induction l with
  | nil => cases h
  | cons p l ih =>
    rw [get_cons] at h
    by_cases hp : p.1 = x
    · rw [if_pos hp] at h
      obtain ⟨q, b⟩ := p
      simp only at hp h
      subst hp
      cases h
      exact List.mem_cons_self
    · rw [if_neg hp] at h
      exact List.mem_cons_of_mem _ (ih h)
theorem get_of_mem (hn : (keys l).Nodup) (h : (x, a) ∈ l) : get l x = some a := by
  induction l with
  | nil => cases h
  | cons p l ih =>
    rw [get_cons]
    obtain ⟨h1, h2⟩ := List.nodup_cons.1 hn
    rcases List.mem_cons.1 h with rfl | h3
    · rw [if_pos rfl]
    · rw [if_neg (fun e => h1 (List.mem_map.2 ⟨_, h3, e.symm⟩))]
      exact ih h2 h3
theorem get_at (hn : (keys l).Nodup) {j : Nat} (h : l[j]? = some (x, a)) : get l x = some a := get_of_mem hn (List.mem_of_getElem? h)
theorem get_put : get (put l x a) y = if y = x then some a else get l y := by
  unfold put
  cases hx : get l x with
  | some u =>
    simp only [Option.isSome_some, if_true]
    have key : ∀ m : List (ByteArray × α), get (m.map fun p => if p.1 = x then (x, a) else p) y = if y = x ∧ (get m x).isSome then some a else get m y := by
      intro m
      induction m with
      | nil => simp [get_nil]
      | cons p m ih =>
        rw [List.map_cons, get_cons, get_cons, get_cons, ih]
        by_cases hp : p.1 = x
        · by_cases hy : y = x
          · subst hy; simp [hp]
          · simp [hp, hy, Ne.symm hy]
        · by_cases hy : y = x
          · subst hy
            simp [hp]
          · simp [hp, hy]
    rw [key, hx]
    by_cases hy : y = x <;> simp [hy]
  | none =>
    simp only [Option.isSome_none, Bool.false_eq_true, if_false]
    have h0 := get_none.1 hx
    have key : ∀ m : List (ByteArray × α), (∀ p ∈ m, p.1 ≠ x) → get (m ++ [(x, a)]) y = if y = x then some a else get m y := by
      intro m
      induction m with
      | nil =>
        intro _
        rw [List.nil_append, get_cons, get_nil]
        by_cases hy : y = x
        · simp [hy]
        · simp [hy, Ne.symm hy]
      | cons p m ih =>
        intro hm
        rw [List.cons_append, get_cons, get_cons, ih (fun q hq => hm q (List.mem_cons_of_mem _ hq))]
        by_cases hy : y = x
        · subst hy
          simp [hm p List.mem_cons_self]
        · simp [hy]
    simpa using key l h0
end
end Dk
section
variable {α : Type} {enc : α → Value} {w w' : World} {b : Nat} {l : List (ByteArray × α)}
theorem MapL.lt (h : MapL enc w b l) : b < w.heap.size := by
  obtain ⟨es, clock, hb, _⟩ := h
  exact (Array.getElem?_eq_some_iff.1 hb).1
theorem MapL.keep (h : MapL enc w b l) (hb : w'.heap[b]? = w.heap[b]?) : MapL enc w' b l := by
  obtain ⟨es, clock, h1, h2⟩ := h
  exact ⟨es, clock, hb.trans h1, h2⟩
theorem MapL.stays (h : MapL enc w b l) (hs : Stays w w') : MapL enc w' b l := h.keep (hs.block b h.lt)
theorem MapL.below {B : Nat} (h : MapL enc w b l) (hs : Below B w w') (hb : b < B) : MapL enc w' b l := h.keep (hs.block b hb)
theorem MapL.grown {row : Option Nat} (h : MapL enc w b l) (hg : w.grownBy w' row) (hne : some b ≠ row) : MapL enc w' b l := h.keep (hg.block b h.lt hne)
theorem MapL.alloc (h : MapL enc w b l) (o : Obj) : MapL enc (w.alloc o) b l := h.keep (Below.heap_alloc w o b h.lt)
theorem MapL.set_ (h : MapL enc w b l) {p : Addr} (hp : b ≠ p.block) (u : Value) : MapL enc (w.setCell p u) b l := h.keep (Below.heap_setCell w p u b hp)
theorem MapL.drewN (h : MapL enc w b l) (n : Nat) : MapL enc (w.drewN n) b l := h
theorem MapL.made (w : World) : MapL enc (w.alloc (.map #[] 0)) w.heap.size [] := ⟨#[], 0, (MapKept.heap_alloc w _).1, stamped_empty 0, rfl⟩
theorem MapL.nodup (h : MapL enc w b l) : (Dk.keys l).Nodup := by
  obtain ⟨es, clock, hb, hs, hl⟩ := h
  have h2 := hs.2.2
  have e : es.toList.map (·.key) = (Dk.keys l).map Value.string := by
    have := congrArg (List.map Prod.fst) hl
    simpa [Dk.keys, List.map_map, Function.comp_def] using this
  rw [e] at h2
  exact List.Pairwise.of_map Value.string (fun a b hab e => hab (by rw [e])) h2
theorem entry_of {es : List MapEntry} (hl : es.map (fun e => (e.key, e.val)) = l.map fun p => (Value.string p.1, enc p.2)) {j : Nat} {e : MapEntry} (he : es[j]? = some e) : ∃ p, l[j]? = some p ∧ e.key = .string p.1 ∧ e.val = enc p.2 := by
  have h := congrArg (fun m => m[j]?) hl
  simp only [List.getElem?_map, he, Option.map_some] at h
  cases hp : l[j]? with
  | none => rw [hp] at h; cases h
  | some p =>
    rw [hp] at h
    simp only [Option.map_some, Option.some.injEq, Prod.mk.injEq] at h
    exact ⟨p, rfl, h.1, h.2⟩
theorem isKeys {es : List MapEntry} (hl : es.map (fun e => (e.key, e.val)) = l.map fun p => (Value.string p.1, enc p.2)) : ∀ e ∈ es, IsKey .string e.key := by
  intro e he
  obtain ⟨j, hj⟩ := List.getElem?_of_mem he
  obtain ⟨p, _, hk, _⟩ := entry_of hl hj
  rw [hk]
  trivial
theorem find_of {es : List MapEntry} (hl : es.map (fun e => (e.key, e.val)) = l.map fun p => (Value.string p.1, enc p.2)) (hn : (Dk.keys l).Nodup) (x : ByteArray) :
    (Dk.get l x = none ∧ Instr.findNow .string (.string x) es 0 = some none) ∨ ∃ j a, Dk.get l x = some a ∧ l[j]? = some (x, a) ∧ Instr.findNow .string (.string x) es 0 = some (some (j, enc a)) ∧ ∃ e, es[j]? = some e ∧ e.key = .string x := by
  rcases findNow_spec (d := .string) (k := .string x) trivial es 0 (isKeys hl) with ⟨h1, h2⟩ | ⟨j, e, h1, h2, h3⟩
  · refine .inl ⟨Dk.get_none.2 fun p hp hx => ?_, h1⟩
    obtain ⟨j, hj⟩ := List.getElem?_of_mem hp
    have hlen : es.length = l.length := by simpa using congrArg List.length hl
    have hjl : j < es.length := by have := (List.getElem?_eq_some_iff.1 hj).1; omega
    obtain ⟨q, hq, hk, _⟩ := entry_of hl (List.getElem?_eq_getElem hjl)
    rw [hj] at hq
    cases hq
    exact h2 _ (List.getElem_mem hjl) (by rw [hk, hx])
  · obtain ⟨⟨k, a⟩, hq, hk, hv⟩ := entry_of hl h2
    rw [h3] at hk
    obtain rfl : x = k := by injection hk
    simp only at hv
    refine .inr ⟨j, a, Dk.get_at hn hq, hq, ?_, e, h2, h3⟩
    rw [h1, Nat.zero_add, hv]
variable {P : Program} {t kt et : TypeId}
theorem MapL.look (h : MapL enc w b l) (hu : P.underlying t = some (.map kt et)) (hd : P.underlying kt = some .string) {z : Value} (hz : (zeroValue et).run P w = .ok z w) (x : ByteArray) (c : Bool) :
    (Instr.lookup t (.map (some b)) (.string x) c).run P w = .ok (if c then .tuple #[((Dk.get l x).map enc).getD z, .bool (Dk.get l x).isSome] else ((Dk.get l x).map enc).getD z) w := by
  have hn := h.nodup
  obtain ⟨es, clock, hb, hs, hl⟩ := h
  rcases find_of hl hn x with ⟨h1, h2⟩ | ⟨j, a, h1, _, h2, _⟩
  · simp [Instr.lookup, run_underlying hu, MapKept.run_getObj_map hb, run_checkKey (d := .string) hd (k := .string x) trivial, run_findKey hd h2, h1, hz, Result.andThen]
  · simp [Instr.lookup, run_underlying hu, MapKept.run_getObj_map hb, run_checkKey (d := .string) hd (k := .string x) trivial, run_findKey hd h2, h1, Result.andThen]
theorem grown_block (w : World) (b : Nat) (o : Obj) : w.grownBy { w with heap := w.heap.setIfInBounds b o } (some b) :=
  ⟨rfl, rfl, rfl, by simp, fun i _ hi => by
    have hne : b ≠ i := fun e => hi (by rw [e])
    simp [hne]⟩
theorem MapL.store (h : MapL enc w b l) (hu : P.underlying t = some (.map kt et)) (hd : P.underlying kt = some .string) (x : ByteArray) (a : α) :
    ∃ w', (Instr.mapUpdate t (.map (some b)) (.string x) (enc a)).run P w = .ok () w' ∧ MapL enc w' b (Dk.put l x a) ∧ w.grownBy w' (some b) := by
  have hn := h.nodup
  obtain ⟨es, clock, hb, hs, hl⟩ := h
  have hlen : es.toList.length = l.length := by simpa using congrArg List.length hl
  rcases find_of hl hn x with ⟨h1, h2⟩ | ⟨j, a0, h1, hj, h2, e, he, hk⟩
  · have hno : ∀ e ∈ es.toList, e.key ≠ .string x := by
      intro e he hk
      obtain ⟨j, hj⟩ := List.getElem?_of_mem he
      obtain ⟨p, hp, hk', _⟩ := entry_of hl hj
      rw [hk] at hk'
      injection hk' with hk'
      exact Dk.get_none.1 h1 p (List.mem_of_getElem? hp) hk'.symm
    refine ⟨{ w with heap := w.heap.setIfInBounds b (.map (es.push ⟨.string x, enc a, clock⟩) (clock + 1)) }, by simp [Instr.mapUpdate, run_underlying hu, MapKept.run_getObj_map hb, run_checkKey (d := .string) hd (k := .string x) trivial, run_findKey hd h2, MapKept.run_setObj_map _ hb, Result.andThen], ⟨_, _, (heap_set hb).1, stamped_push hs hno, ?_⟩, grown_block w b _⟩
    simp only [Array.toList_push, List.map_append, hl, List.map_cons, List.map_nil]
    unfold Dk.put
    rw [h1]
    simp
  · have hj' : es[j]? = some e := by simpa using he
    have hkey : ∀ e', es[j]? = some e' → ({ key := .string x, val := enc a, born := e'.born } : MapEntry).key = e'.key := fun e' he' => by rw [hj'] at he'; cases he'; exact hk.symm
    refine ⟨{ w with heap := w.heap.setIfInBounds b (.map (es.modify j fun e => { e with key := .string x, val := enc a }) clock) }, by simp [Instr.mapUpdate, run_underlying hu, MapKept.run_getObj_map hb, run_checkKey (d := .string) hd (k := .string x) trivial, run_findKey hd h2, hj', hk, run_keyThatStays (d := .string) (k := .string x) trivial, MapKept.run_setObj_map _ hb, Result.andThen], ⟨_, _, (heap_set hb).1, stamped_modify hs _ _ (fun _ _ => rfl) (fun e' _ he' => hkey e' he'), ?_⟩, grown_block w b _⟩
    unfold Dk.put
    rw [h1]
    simp only [Option.isSome_some, if_true]
    apply List.ext_getElem?
    intro i
    simp only [Array.toList_modify, List.getElem?_map, List.getElem?_modify]
    cases hi : es.toList[i]? with
    | none =>
      have : l[i]? = none := by rw [List.getElem?_eq_none_iff] at hi ⊢; omega
      simp [this]
    | some ei =>
      obtain ⟨p, hp, hkp, hvp⟩ := entry_of hl hi
      rw [hp]
      simp only [Option.map_some]
      by_cases hij : j = i
      · subst hij
        rw [hj] at hp
        cases hp
        simp
      · have hpx : p.1 ≠ x := by
          intro hpx
          have h3 := hs.2.2
          have h4 : i < es.toList.length := (List.getElem?_eq_some_iff.1 hi).1
          have h5 : j < es.toList.length := (List.getElem?_eq_some_iff.1 he).1
          have h6 : (es.toList.map (·.key))[i]'(by simpa using h4) = (es.toList.map (·.key))[j]'(by simpa using h5) := by
            have e1 := (List.getElem?_eq_some_iff.1 hi).2
            have e2 := (List.getElem?_eq_some_iff.1 he).2
            simp only [List.getElem_map, e1, e2, hkp, hk, hpx]
          rcases Nat.lt_or_ge i j with h7 | h7
          · exact List.pairwise_iff_getElem.1 h3 i j (by simpa using h4) (by simpa using h5) h7 h6
          · exact List.pairwise_iff_getElem.1 h3 j i (by simpa using h5) (by simpa using h4) (by omega) h6.symm
        simp [hij, hpx, hkp, hvp]
theorem map_erase {β γ : Type} (f : β → γ) : ∀ (m : List β) (j : Nat), (m.eraseIdx j).map f = (m.map f).eraseIdx j
  | [], j => by simp
  | _ :: _, 0 => rfl
  | x :: m, j + 1 => by
    simp only [List.eraseIdx_cons_succ, List.map_cons]
    rw [map_erase f m j]
theorem MapL.delete (h : MapL enc w b l) (hu : P.underlying t = some (.map kt et)) (hd : P.underlying kt = some .string) (x : ByteArray) (ty : TypeId) :
    ∃ w', (Builtin.delete_ #[t, kt] ty #[.map (some b), .string x]).run P w = .ok (.tuple #[]) w' ∧ MapL enc w' b (Dk.del l x) ∧ w.grownBy w' (some b) := by
  have hn := h.nodup
  obtain ⟨es, clock, hb, hs, hl⟩ := h
  rcases find_of hl hn x with ⟨h1, h2⟩ | ⟨j, a0, h1, hj, h2, e, he, hk⟩
  · refine ⟨{ w with heap := w.heap.setIfInBounds b (.map es clock) }, by simp [Builtin.delete_, run_underlying hu, MapKept.run_getObj_map hb, run_checkKey (d := .string) hd (k := .string x) trivial, run_findKey hd h2, MapKept.run_setObj_map _ hb, Result.andThen], ⟨_, _, (heap_set hb).1, hs, ?_⟩, grown_block w b _⟩
    have : Dk.del l x = l := List.filter_eq_self.2 fun p hp => by simpa using Dk.get_none.1 h1 p hp
    rw [this]
    exact hl
  · refine ⟨{ w with heap := w.heap.setIfInBounds b (.map (es.eraseIdxIfInBounds j) clock) }, by simp [Builtin.delete_, run_underlying hu, MapKept.run_getObj_map hb, run_checkKey (d := .string) hd (k := .string x) trivial, run_findKey hd h2, MapKept.run_setObj_map _ hb, Result.andThen], ⟨_, _, (heap_set hb).1, stamped_erase hs j, ?_⟩, grown_block w b _⟩
    have hjs : j < es.size := by have := (List.getElem?_eq_some_iff.1 he).1; simpa using this
    have e1 : (es.eraseIdxIfInBounds j).toList = es.toList.eraseIdx j := by
      unfold Array.eraseIdxIfInBounds
      rw [dif_pos hjs, Array.toList_eraseIdx]
    have key : ∀ (m : List (ByteArray × α)) (j : Nat), (Dk.keys m).Nodup → m[j]? = some (x, a0) → Dk.del m x = m.eraseIdx j := by
      intro m
      induction m with
      | nil => intro j _ h; simp at h
      | cons p m ih =>
        intro j hn h
        obtain ⟨n1, n2⟩ := List.nodup_cons.1 hn
        cases j with
        | zero =>
          simp at h
          subst h
          unfold Dk.del
          rw [List.filter_cons, if_neg (by simp), List.eraseIdx_cons_zero]
          refine List.filter_eq_self.2 fun q hq => ?_
          have : q.1 ≠ x := fun e => n1 (List.mem_map.2 ⟨q, hq, e⟩)
          simpa using this
        | succ j =>
          simp only [List.getElem?_cons_succ] at h
          have hp : p.1 ≠ x := fun e => n1 (List.mem_map.2 ⟨_, List.mem_of_getElem? h, e.symm⟩)
          unfold Dk.del
          rw [List.filter_cons, if_pos (by simpa using hp), List.eraseIdx_cons_succ]
          exact congrArg _ (ih j n2 h)
    rw [e1, key l j hn hj, map_erase, hl, map_erase]
theorem MapL.len (h : MapL enc w b l) (hu : P.underlying t = some (.map (P.mapKeyOf t) (P.mapElemOf t))) (ty : TypeId) : (Builtin.len_ #[t] ty #[.map (some b)]).run P w = .ok (.int .i64 (l.length : Int)) w := by
  obtain ⟨es, clock, hb, hs, hl⟩ := h
  have hlen : es.toList.length = l.length := by simpa using congrArg List.length hl
  rw [run_len_map (P := P) w t ty b es clock hu hb, ← hlen]
  rfl
section
variable {ops : Array Oper} {rest : List Oper} {o : Oper} {a : Act} {Q : Exit → Act → World → Prop}
end
end
end Go.Proofs.YtmabpnmnppfgaaaGreatDoor
namespace Go.Proofs.YtmabpnmnppfgaaaGreatDoor
set_option linter.unusedVariables false
open Go Go.RowKit
structure Chg (g m : Nat) (w w' : World) : Prop where
  os : w'.os = w.os
  tape : w'.tape = w.tape
  output : w'.output = w.output
  size : w.heap.size ≤ w'.heap.size
  block : ∀ b, b < w.heap.size → b ≠ g → b ≠ m → w'.heap[b]? = w.heap[b]?
section
variable {g m : Nat} {w w' w'' : World}
theorem Chg.refl (g m : Nat) (w : World) : Chg g m w w := ⟨rfl, rfl, rfl, Nat.le_refl _, fun _ _ _ _ => rfl⟩
theorem Chg.trans (h : Chg g m w w') (k : Chg g m w' w'') : Chg g m w w'' :=
  ⟨k.os.trans h.os, k.tape.trans h.tape, k.output.trans h.output, Nat.le_trans h.size k.size, fun b hb h1 h2 => (k.block b (Nat.lt_of_lt_of_le hb h.size) h1 h2).trans (h.block b hb h1 h2)⟩
theorem Chg.of_below (h : Below w.heap.size w w') : Chg g m w w' := ⟨h.os, h.tape, h.output, h.size, fun b hb _ _ => h.block b hb⟩
theorem Chg.below (h : Chg g m w w') (k : Below w'.heap.size w' w'') : Chg g m w w'' := h.trans (Chg.of_below k)
theorem Chg.stays (h : Chg g m w w') (k : Stays w' w'') : Chg g m w w'' := h.trans (Chg.of_below k)
theorem Chg.grown (h : Chg g m w w') {row : Option Nat} (k : w'.grownBy w'' row) (hr : ∀ r, row = some r → r = g ∨ r = m ∨ w.heap.size ≤ r) : Chg g m w w'' :=
  ⟨k.os.trans h.os, k.tape.trans h.tape, k.output.trans h.output, Nat.le_trans h.size k.size, fun b hb h1 h2 => (k.block b (Nat.lt_of_lt_of_le hb h.size) (fun e => by
    rcases hr b e.symm with r | r | r
    · exact h1 r
    · exact h2 r
    · omega)).trans (h.block b hb h1 h2)⟩
theorem Chg.alloc (h : Chg g m w w') (o : Obj) : Chg g m w (w'.alloc o) := h.below ((Below.refl _ _).alloc (Nat.le_refl _) o)
theorem Chg.drewN (h : Chg g m w w') (n : Nat) : Chg g m w (w'.drewN n) := ⟨h.os, h.tape, h.output, h.size, h.block⟩
theorem Chg.drew (h : Chg g m w w') : Chg g m w w'.drew := ⟨h.os, h.tape, h.output, h.size, h.block⟩
theorem Chg.set_ (h : Chg g m w w') {p : Addr} (hp : p.block = g ∨ p.block = m ∨ w.heap.size ≤ p.block) (u : Value) : Chg g m w (w'.setCell p u) :=
  ⟨h.os, h.tape, h.output, by simp [World.setCell]; exact h.size, fun b hb h1 h2 => (Below.heap_setCell _ _ _ _ (fun e => by
    subst e
    rcases hp with r | r | r
    · exact h1 r
    · exact h2 r
    · omega)).trans (h.block b hb h1 h2)⟩
theorem Chg.setCells (h : Chg g m w w') {b : Nat} (hb : b = g ∨ b = m ∨ w.heap.size ≤ b) : ∀ (vs : List Value) (o : Nat), Chg g m w (w'.setCells b o vs) := by
  intro vs
  induction vs generalizing w' with
  | nil => intro o; exact h
  | cons v vs ih => intro o; exact ih (h.set_ (p := ⟨b, o, none⟩) hb v) (o + 1)
theorem Blk.chg {k : Nat} {t : TypeId} {cs : Array Value} (h : Blk w k t cs) (hc : Chg g m w w') (h1 : k ≠ g) (h2 : k ≠ m) : Blk w' k t cs := (hc.block k h.lt h1 h2).trans h
theorem MapL.chg {α : Type} {enc : α → Value} {b : Nat} {l : List (ByteArray × α)} (h : MapL enc w b l) (hc : Chg g m w w') (h1 : b ≠ g) (h2 : b ≠ m) : MapL enc w' b l := h.keep (hc.block b h.lt h1 h2)
end
end Go.Proofs.YtmabpnmnppfgaaaGreatDoor
