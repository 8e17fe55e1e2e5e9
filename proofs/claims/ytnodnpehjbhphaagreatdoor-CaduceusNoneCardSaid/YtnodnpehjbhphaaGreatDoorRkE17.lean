/- A region that draws its order: what stands in every order. Plain lemmas. -/
import Derived.Test.YtnodnpehjbhphaaGreatDoorRkE16
namespace Go.Proofs.YtnodnpehjbhphaaGreatDoor.Rk
open Go
set_option linter.unusedVariables false
theorem hit_all {e : LE} {b i : Nat} (h : e.at b i) : (LE.all b).hits e = true ∧ e.hits (LE.all b) = true := by
  cases e with
  | rd c j n => obtain ⟨rfl, _⟩ := h; exact ⟨by simp [LE.hits, LE.blk], by simp [LE.hits, LE.blk]⟩
  | wr c j n => obtain ⟨rfl, _⟩ := h; exact ⟨by simp [LE.hits, LE.blk], by simp [LE.hits, LE.blk]⟩
  | all c => cases h; exact ⟨by simp [LE.hits, LE.blk], by simp [LE.hits, LE.blk]⟩
theorem hit_wr {e f : LE} {b i : Nat} (h : e.at b i) (hf : f.wrote b i) : f.hits e = true ∧ e.hits f = true := by
  cases f with
  | rd c j n => exact hf.elim
  | all c => exact hf.elim
  | wr c j n =>
    obtain ⟨rfl, h1, h2⟩ := hf
    cases e with
    | rd d k m => obtain ⟨rfl, h3, h4⟩ := h; exact ⟨by simp [LE.hits]; omega, by simp [LE.hits]; omega⟩
    | wr d k m => obtain ⟨rfl, h3, h4⟩ := h; exact ⟨by simp [LE.hits]; omega, by simp [LE.hits]; omega⟩
    | all d => cases h; exact ⟨by simp [LE.hits, LE.blk], by simp [LE.hits, LE.blk]⟩
theorem clash_inv {x y : Stp} (h : x.rc.clash y.rc = false) : (∀ e ∈ x.q.log, ∀ f ∈ y.q.log, e.hits f = false) ∧ (∀ f ∈ y.q.log, ¬ (x.p.n ≤ f.blk ∧ f.blk < x.q.n)) ∧ ¬ (x.wr = true ∧ y.wr = true) := by
  unfold Rec.clash at h
  simp only [Bool.or_eq_false_iff] at h
  obtain ⟨⟨h1, h2⟩, h3⟩ := h
  refine ⟨fun e he f hf => ?_, fun f hf hh => ?_, fun ⟨h4, h5⟩ => ?_⟩
  · have h4 : (y.rc.log.any fun f => e.hits f) = false := by simpa using List.any_eq_false.1 h1 e he
    simpa using List.any_eq_false.1 h4 f hf
  · have := List.any_eq_false.1 h2 f hf
    unfold LE.made at this
    apply this
    simp only [Bool.and_eq_true, decide_eq_true_eq]
    exact hh
  · have : (x.rc.log.any (·.writes) && y.rc.log.any (·.writes)) = true := by
      simp only [Bool.and_eq_true]
      exact ⟨h4, h5⟩
    rw [this] at h3
    cases h3
theorem quiet_of {x : Stp} (h : x.wr = false) {b i : Nat} : LE.all b ∉ x.q.log ∧ ∀ e ∈ x.q.log, ¬ e.wrote b i := by
  have := List.any_eq_false.1 h
  refine ⟨fun hm => this _ hm rfl, fun e he hw => ?_⟩
  cases e with
  | wr c j n => exact this _ he rfl
  | rd => exact hw.elim
  | all => exact hw.elim
def AgB (Tb : Nat → Prop) : ABlk → ABlk → Prop
  | .cells t cs, y => ∃ cs', y = .cells t cs' ∧ cs'.length = cs.length ∧ ∀ i, Tb i → cs'[i]? = cs[i]?
  | x, y => y = x
theorem AgB.refl (Tb : Nat → Prop) (x : ABlk) : AgB Tb x x := by
  cases x <;> first | rfl | exact ⟨_, rfl, rfl, fun _ _ => rfl⟩
theorem AgB.trans {Tb : Nat → Prop} {x y z : ABlk} (h : AgB Tb x y) (k : AgB Tb y z) : AgB Tb x z := by
  cases x with
  | cells t cs =>
    obtain ⟨cs', rfl, h2, h3⟩ := h
    obtain ⟨cs2, rfl, k2, k3⟩ := k
    exact ⟨cs2, rfl, k2.trans h2, fun i hi => (k3 i hi).trans (h3 i hi)⟩
  | _ => cases h; exact k
theorem AgB.symm {Tb : Nat → Prop} {x y : ABlk} (h : AgB Tb x y) : AgB Tb y x := by
  cases x with
  | cells t cs =>
    obtain ⟨cs', rfl, h2, h3⟩ := h
    exact ⟨cs, rfl, h2.symm, fun i hi => (h3 i hi).symm⟩
  | _ => cases h; exact AgB.refl _ _
theorem AgB.live {Tb : Nat → Prop} {x y : ABlk} (h : AgB Tb x y) (hl : live x) : live y := by
  cases x with
  | cells t cs => obtain ⟨cs', rfl, _⟩ := h; trivial
  | _ => cases h; exact hl
theorem AgB.eq {x y : ABlk} (h : AgB (fun _ => True) x y) : y = x := by
  cases x with
  | cells t cs =>
    obtain ⟨cs', rfl, h2, h3⟩ := h
    congr 1
    exact List.ext_getElem? (fun i => h3 i trivial)
  | _ => exact h
theorem BR.agree {ρ : Env} {Tb T : Nat → Prop} {b : Nat} {w : World} {x y : ABlk} (h : BR ρ T b w x) (ha : AgB Tb x y) (hT : ∀ i, Tb i → T i) : BR ρ Tb b w y := by
  cases x with
  | cells t cs =>
    obtain ⟨cs', rfl, h2, h3⟩ := ha
    obtain ⟨r, c, fr, g1, g2, g3, g4, g5, g6⟩ := h
    exact ⟨r, c, fr, g1, g2, g3, by rw [h2]; exact g4, g5, fun i a hi ht => g6 i a (by rw [← h3 i ht]; exact hi) (hT i ht)⟩
  | map _ _ => cases ha; exact h
  | miter _ _ _ _ => cases ha; exact h
  | defd => cases ha; exact h
  | loop _ _ _ _ _ _ _ _ => cases ha; exact h
  | dead => cases ha; exact h
theorem Keep.ag {log : List LE} {b : Nat} {x : ABlk} {y : Option ABlk} {Tb : Nat → Prop} (h : Keep log b x y) (hn : ∀ i, Tb i → ∀ e ∈ log, ¬ e.wrote b i) : ∃ z, y = Option.some z ∧ AgB Tb x z := by
  cases x with
  | cells t cs => obtain ⟨cs', rfl, h2, h3⟩ := h; exact ⟨_, rfl, cs', rfl, h2, fun i hi => h3 i (hn i hi)⟩
  | _ => exact ⟨_, h, rfl⟩
section
variable {P : Program} {C : Callee} {Y : Yielder} (hC : CSound P C) (hY : YSound P Y) {ops : List Oper} {ss : List Stp} {A : Nat → AAct} {S : Nat → St} (X : Text P C Y ops ss A S) (hw0 : WfS (S 0))
include hC hY X hw0
theorem tx_get {k : Nat} (hk : k < ops.length) : ∃ x o, ss[k]? = some x ∧ ops[k]? = some o := by
  have _all := (⟨hC, hY, hw0⟩ : _ ∧ _ ∧ _)
  exact ⟨_, _, List.getElem?_eq_getElem (by rw [X.len]; exact hk), List.getElem?_eq_getElem hk⟩
theorem tx_step {k : Nat} {x : Stp} (hx : ss[k]? = some x) (hwf : WfS (S k)) : Mono x.p x.q ∧ x.p.heap = (S k).heap ∧ x.p.n = (S k).n ∧ x.p.log = [] ∧ (S (k + 1)).heap = x.q.heap ∧ (S (k + 1)).n = x.q.n ∧ (S (k + 1)).log = x.q.log ++ (S k).log := by
  have _all := hw0
  have hk : k < ops.length := by have := (List.getElem?_eq_some_iff.1 hx).1; rw [X.len] at this; exact this
  obtain ⟨h1, h2, h3, h4⟩ := X.at_ k x _ hx (List.getElem?_eq_getElem hk)
  refine ⟨?_, by rw [h1], by rw [h1], by rw [h1], by rw [h3], by rw [h3], by rw [h3]⟩
  rcases h4 with ⟨_, h4⟩ | ⟨_, _, h4⟩
  · exact oneVal_mono hC hY h4 (by rw [h1]; exact hwf)
  · rw [h4]; exact Mono.refl _
theorem tx_wf : ∀ k, k ≤ ops.length → WfS (S k)
  | 0, _ => hw0
  | k + 1, hk => by
    have ih := tx_wf k (by omega)
    obtain ⟨x, o, hx, _⟩ := tx_get hC hY X hw0 (show k < ops.length by omega)
    obtain ⟨m, h1, h2, h3, h4, h5, h6⟩ := tx_step hC hY X hw0 hx ih
    have := m.wf (by intro b hb; rw [h1]; exact ih b (by omega))
    intro b hb
    rw [h4]
    exact this b (by omega)
theorem tx_n : ∀ j i, i ≤ j → j ≤ ops.length → (S i).n ≤ (S j).n
  | 0, i, hi, _ => by have : i = 0 := by omega
                      subst this; exact Nat.le_refl _
  | j + 1, i, hi, hj => by
    by_cases h : i = j + 1
    · subst h; exact Nat.le_refl _
    · have ih := tx_n j i (by omega) (by omega)
      obtain ⟨x, o, hx, _⟩ := tx_get hC hY X hw0 (show j < ops.length by omega)
      obtain ⟨m, h1, h2, h3, h4, h5, h6⟩ := tx_step hC hY X hw0 hx (tx_wf hC hY X hw0 j (by omega))
      have := m.n
      omega
theorem tx_log : ∀ j i, i ≤ j → j ≤ ops.length → ∀ e ∈ (S i).log, e ∈ (S j).log
  | 0, i, hi, _ => by have : i = 0 := by omega
                      subst this; exact fun _ h => h
  | j + 1, i, hi, hj => by
    by_cases h : i = j + 1
    · subst h; exact fun _ h => h
    · have ih := tx_log j i (by omega) (by omega)
      obtain ⟨x, o, hx, _⟩ := tx_get hC hY X hw0 (show j < ops.length by omega)
      obtain ⟨m, h1, h2, h3, h4, h5, h6⟩ := tx_step hC hY X hw0 hx (tx_wf hC hY X hw0 j (by omega))
      intro e he
      rw [h6]
      exact List.mem_append_right _ (ih e he)
theorem tx_mem {k : Nat} {x : Stp} (hx : ss[k]? = some x) : ∀ e ∈ x.q.log, e ∈ (S ops.length).log := by
  have hk : k < ops.length := by have := (List.getElem?_eq_some_iff.1 hx).1; rw [X.len] at this; exact this
  obtain ⟨m, h1, h2, h3, h4, h5, h6⟩ := tx_step hC hY X hw0 hx (tx_wf hC hY X hw0 k (by omega))
  intro e he
  exact tx_log hC hY X hw0 ops.length (k + 1) (by omega) (Nat.le_refl _) e (by rw [h6]; exact List.mem_append_left _ he)
/-- Who made a block. -/
theorem tx_made {b : Nat} : ∀ (j i : Nat), i ≤ j → j ≤ ops.length → (S i).n ≤ b → b < (S j).n → ∃ k, i ≤ k ∧ k < j ∧ (S k).n ≤ b ∧ b < (S (k + 1)).n
  | 0, i, hi, _, h1, h2 => by
    have _all := (⟨hC, hY, X, hw0⟩ : _ ∧ _ ∧ _ ∧ _)
    have : i = 0 := by omega
    subst this
    omega
  | j + 1, i, hi, hj, h1, h2 => by
    by_cases h : b < (S j).n
    · by_cases hij : i = j + 1
      · subst hij; omega
      · obtain ⟨k, g1, g2, g3⟩ := tx_made j i (by omega) (by omega) h1 h
        exact ⟨k, g1, by omega, g3⟩
    · by_cases hij : i = j + 1
      · subst hij; omega
      · exact ⟨j, by omega, by omega, by omega, h2⟩
theorem tx_one {b k j : Nat} (hk : k < ops.length) (hj : j < ops.length) (h1 : (S k).n ≤ b) (h2 : b < (S (k + 1)).n) (h3 : (S j).n ≤ b) (h4 : b < (S (j + 1)).n) : k = j := by
  rcases Nat.lt_trichotomy k j with h | h | h
  · have := tx_n hC hY X hw0 j (k + 1) (by omega) (by omega); omega
  · exact h
  · have := tx_n hC hY X hw0 k (j + 1) (by omega) (by omega); omega
/-- What lives later lived. -/
theorem tx_live {b : Nat} : ∀ (j i : Nat), i ≤ j → j ≤ ops.length → b < (S i).n → ∀ y, (S j).heap.get b = some y → live y → ∃ z, (S i).heap.get b = some z ∧ live z
  | 0, i, hi, _, hb, y, hy, hl => by
    have : i = 0 := by omega
    subst this
    exact ⟨y, hy, hl⟩
  | j + 1, i, hi, hj, hb, y, hy, hl => by
    by_cases h : i = j + 1
    · subst h; exact ⟨y, hy, hl⟩
    · obtain ⟨x, o, hx, _⟩ := tx_get hC hY X hw0 (show j < ops.length by omega)
      have hwf := tx_wf hC hY X hw0 j (by omega)
      obtain ⟨m, h1, h2, h3, h4, h5, h6⟩ := tx_step hC hY X hw0 hx hwf
      have hn := tx_n hC hY X hw0 j i (by omega) (by omega)
      obtain ⟨z, hz, hzl⟩ := m.lv (by intro b hb; rw [h1]; exact hwf b (by omega)) b y (by omega) (by rw [← h4]; exact hy) hl
      rw [h1] at hz
      exact tx_live j i (by omega) (by omega) hb z hz hzl
/-- What is not changed stays. -/
theorem tx_path {b : Nat} {Tb : Nat → Prop} : ∀ (j i : Nat), i ≤ j → j ≤ ops.length → (∀ l x, i ≤ l → l < j → ss[l]? = some x → LE.all b ∉ x.q.log ∧ ∀ i, Tb i → ∀ e ∈ x.q.log, ¬ e.wrote b i) → ∀ z, (S i).heap.get b = some z → ∃ y, (S j).heap.get b = some y ∧ AgB Tb z y
  | 0, i, hi, _, hq, z, hz => by
    have : i = 0 := by omega
    subst this
    exact ⟨z, hz, AgB.refl _ _⟩
  | j + 1, i, hi, hj, hq, z, hz => by
    by_cases h : i = j + 1
    · subst h; exact ⟨z, hz, AgB.refl _ _⟩
    · obtain ⟨y, hy, hag⟩ := tx_path j i (by omega) (by omega) (fun l x h1 h2 hx => hq l x h1 (by omega) hx) z hz
      obtain ⟨x, o, hx, _⟩ := tx_get hC hY X hw0 (show j < ops.length by omega)
      have hwf := tx_wf hC hY X hw0 j (by omega)
      obtain ⟨m, h1, h2, h3, h4, h5, h6⟩ := tx_step hC hY X hw0 hx hwf
      obtain ⟨q1, q2⟩ := hq j x (by omega) (by omega) hx
      have hk := m.keep (by intro b hb; rw [h1]; exact hwf b (by omega)) b y (by rw [h1]; exact hy) q1
      obtain ⟨y', hy', hag'⟩ := Keep.ag hk q2
      exact ⟨y', by rw [h4]; exact hy', hag.trans hag'⟩
end
end Go.Proofs.YtnodnpehjbhphaaGreatDoor.Rk
