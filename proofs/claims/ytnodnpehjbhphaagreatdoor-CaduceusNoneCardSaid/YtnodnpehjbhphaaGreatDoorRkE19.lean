/- Regions: in whatever order. Plain lemmas. -/
import Derived.Test.YtnodnpehjbhphaaGreatDoorRkE18
namespace Go.Proofs.YtnodnpehjbhphaaGreatDoor.Rk
open Go
set_option linter.unusedVariables false
section
variable {P : Program} {C : Callee} {Y : Yielder} (hC : CSound P C) (hY : YSound P Y) {ops : List Oper} {ss : List Stp} {A : Nat → AAct} {S : Nat → St} (X : Text P C Y ops ss A S)
include X
theorem A_sz : ∀ k, k ≤ ops.length → (A k).sz = (A 0).sz ∧ (A k).defs = (A 0).defs
  | 0, _ => ⟨rfl, rfl⟩
  | k + 1, hk => by
    have hx : ss[k]? = some (ss[k]'(by rw [X.len]; omega)) := List.getElem?_eq_getElem _
    obtain ⟨_, h2, _⟩ := X.at_ k _ _ hx (List.getElem?_eq_getElem (show k < ops.length by omega))
    obtain ⟨ih1, ih2⟩ := A_sz k (by omega)
    rw [h2]
    unfold AAct.put AAct.putT
    split
    · split <;> exact ⟨ih1, ih2⟩
    · exact ⟨ih1, ih2⟩
theorem put_get_ne (a : AAct) (d : Option Tmp) (v : AV) (t : Nat) (h : d ≠ some t) : (a.put d v).get t = a.get t := by
  have _all := X
  unfold AAct.put AAct.putT
  split
  · rename_i d'
    split
    · unfold AAct.get
      rw [Tr.get_set, if_neg (fun e => h (by rw [e]))]
    · rfl
  · rfl
theorem put_get_eq (a : AAct) (v : AV) (t : Nat) (h : t < a.sz) : (a.put (some t) v).get t = v := by
  have _all := X
  unfold AAct.put AAct.putT
  simp only [if_pos h]
  unfold AAct.get
  rw [Tr.get_set, if_pos rfl]
  rfl
theorem A_old {t : Nat} : ∀ k, k ≤ ops.length → (∀ (j : Nat) (o : Oper), j < k → ops[j]? = some o → o.dst ≠ some t) → (A k).get t = (A 0).get t
  | 0, _, _ => rfl
  | k + 1, hk, h => by
    have hx : ss[k]? = some (ss[k]'(by rw [X.len]; omega)) := List.getElem?_eq_getElem _
    have ho : ops[k]? = some (ops[k]'(by omega)) := List.getElem?_eq_getElem _
    obtain ⟨_, h2, _⟩ := X.at_ k _ _ hx ho
    rw [h2, put_get_ne X _ _ _ _ (h k _ (by omega) ho)]
    exact A_old k (by omega) (fun j o hj => h j o (by omega))
theorem A_val {t j : Nat} {x : Stp} {o : Oper} (hx : ss[j]? = some x) (ho : ops[j]? = some o) (ht : o.dst = some t) (hsz : t < (A 0).sz) (hone : ∀ (i : Nat) (q : Oper), ops[i]? = some q → q.dst = some t → i = j) : ∀ k, j < k → k ≤ ops.length → (A k).get t = x.v
  | 0, hj, _ => by omega
  | k + 1, hj, hk => by
    have hy : ss[k]? = some (ss[k]'(by rw [X.len]; omega)) := List.getElem?_eq_getElem _
    have hq : ops[k]? = some (ops[k]'(by omega)) := List.getElem?_eq_getElem _
    obtain ⟨_, h2, _⟩ := X.at_ k _ _ hy hq
    by_cases hjk : j = k
    · subst hjk
      rw [hx] at hy
      rw [ho] at hq
      rw [h2, ← Option.some.inj hy, ← Option.some.inj hq, ht, put_get_eq X _ _ _ (by rw [(A_sz X j (by omega)).1]; exact hsz)]
    · rw [h2, put_get_ne X _ _ _ _ (fun e => hjk (hone k _ hq e).symm)]
      exact A_val hx ho ht hsz hone k (by omega) (by omega)
end
/-- The form of a region that may be reckoned in the order of the text. -/
structure Wf (ops : List Oper) (sz : Nat) : Prop where
  lt : ∀ (k : Nat) (o : Oper), ops[k]? = some o → ∀ j, (W ops k).testBit j = true → j < k
  looks : ∀ (k j : Nat) (o q : Oper) t, ops[k]? = some o → ops[j]? = some q → t ∈ opTmps ops o → q.dst = some t → (W ops k).testBit j = true
  dst : ∀ (k : Nat) (o : Oper) d, ops[k]? = some o → o.dst = some d → d < sz ∧ ∀ (j : Nat) (q : Oper), ops[j]? = some q → q.dst = some d → j = k
theorem zip_mem {α : Type} {l : List α} {k : Nat} {x : α} (h : l[k]? = some x) : (x, k) ∈ l.zipIdx := List.mem_of_getElem? (i := k) (by rw [List.getElem?_zipIdx, h]; simp)
theorem wf_of {ops : List Oper} {sz : Nat} (h : wfOps ops sz (waitsA ops) = true) : Wf ops sz := by
  unfold wfOps at h
  have key : ∀ (k : Nat) (o : Oper), ops[k]? = some o → _ := fun k o ho => List.all_eq_true.1 h (o, k) (zip_mem ho)
  simp only [Bool.and_eq_true, decide_eq_true_eq] at key
  refine ⟨fun k o ho j hj => ?_, fun k j o q t ho hq ht hd => ?_, fun k o d ho hd => ?_⟩
  · have h1 := (key k o ho).1.1
    rcases Nat.lt_or_ge j k with h2 | h2
    · exact h2
    · have h3 : (waitsA ops).getD k 0 < 2 ^ j := Nat.lt_of_lt_of_le h1 (Nat.pow_le_pow_right (by omega) h2)
      have := Nat.testBit_lt_two_pow h3
      unfold W at hj
      rw [hj] at this
      cases this
  · have h1 := List.all_eq_true.1 ((key k o ho).1.2) t ht
    have h2 := List.all_eq_true.1 h1 (q, j) (zip_mem hq)
    simp only [Bool.or_eq_true, bne_iff_ne, ne_eq] at h2
    rcases h2 with h2 | h2
    · exact absurd hd h2
    · exact h2
  · have h1 := (key k o ho).2
    rw [hd] at h1
    simp only [Bool.and_eq_true, decide_eq_true_eq] at h1
    refine ⟨h1.1, fun j q hq hqd => ?_⟩
    have h2 := List.all_eq_true.1 h1.2 (q, j) (zip_mem hq)
    simp only [Bool.or_eq_true, beq_iff_eq, bne_iff_ne, ne_eq] at h2
    rcases h2 with h2 | h2
    · exact h2
    · exact absurd hqd h2
section
variable {P : Program} {C : Callee} {Y : Yielder} (hC : CSound P C) (hY : YSound P Y) {ops : List Oper} {opsA : Array Oper} (hop : opsA.toList = ops) {ss : List Stp} {A : Nat → AAct} {S : Nat → St} (X : Text P C Y ops ss A S) (hw0 : WfS (S 0))
  {ρ0 : Env} {T : Nat → Nat → Prop} {w0 : World} {a0 : Act} (hp : Pre ρ0 T (S 0) (S ops.length) w0) (hwf : Wf ops (A 0).sz) (ha : ActR ρ0 (A 0) a0)
include hC hY hop X hw0 hp hwf ha
theorem size_eq : opsA.size = ops.length := by
  have _all := (⟨hC, hY, X, hw0, hp, hwf, ha⟩ : _ ∧ _ ∧ _ ∧ _ ∧ _ ∧ _ ∧ _)
  rw [← hop, Array.length_toList]
theorem at_eq (k : Nat) : opsA[k]? = ops[k]? := by
  have _all := (⟨hC, hY, X, hw0, hp, hwf, ha⟩ : _ ∧ _ ∧ _ ∧ _ ∧ _ ∧ _ ∧ _)
  rw [← hop, Array.getElem?_toList]
theorem dv_init : DInv ops ss S (A 0).sz ρ0 T w0 a0 (fun _ => false) 0 (S 0).heap.get ρ0 a0 w0 := by
  have _all := (⟨hC, hY, hop, X, hw0, hwf⟩ : _ ∧ _ ∧ _ ∧ _ ∧ _ ∧ _)
  have hTL : TL ops S T (fun _ => false) = T := by
    funext b i
    exact propext ⟨fun h => h.elim id (fun ⟨j, _, h, _⟩ => by cases h), .inl⟩
  refine ⟨ha.size, rfl, fun _ _ => rfl, fun j x o t _ h => (by cases h), Env.le_refl _, fun b r h => .inl h, fun (b : Nat) (r : RB) h1 h2 _ => (nomatch (h1.symm.trans h2)), (by rw [hTL]; exact hp.good), Unch.refl _ _ _ _ rfl rfl rfl rfl, fun k j h => (by cases h), fun j x _ _ => ⟨fun h => (by cases h), fun h => (by omega)⟩, Nat.zero_le _, fun b y _ _ _ => Iff.rfl, fun j b y _ h => (by cases h)⟩
/-- The end. -/
theorem dv_end {L : Nat → Bool} {E : Nat} {h : Nat → Option ABlk} {ρ : Env} {a : Act} {w : World} (I : DInv ops ss S (A 0).sz ρ0 T w0 a0 L E h ρ a w) (hall : ∀ j, j < ops.length → L j = true) : Post ρ0 T (S 0) w0 ρ (S ops.length) w ∧ ActR ρ (A ops.length) a := by
  have _all := hop
  have hTL : ∀ b i, TL ops S T L b i ↔ Tn T (S 0).n (S ops.length).n b i := by
    intro b i
    constructor
    · rintro (h1 | ⟨j, h1, h2, h3, h4⟩)
      · exact .inl h1
      · have := tx_n hC hY X hw0 j 0 (by omega) (by omega)
        have := tx_n hC hY X hw0 ops.length (j + 1) (by omega) (Nat.le_refl _)
        exact .inr ⟨by omega, by omega⟩
    · rintro (h1 | h1)
      · exact .inl h1
      · obtain ⟨j, g1, g2, g3, g4⟩ := tx_made hC hY X hw0 (b := b) ops.length 0 (by omega) (Nat.le_refl _) h1.1 h1.2
        exact .inr ⟨j, g2, hall j g2, g3, g4⟩
  have hTLe : TL ops S T L = Tn T (S 0).n (S ops.length).n := by funext b i; exact propext (hTL b i)
  have hq : ∀ b i0, E ≤ i0 → ∀ l y', i0 ≤ l → l < ops.length → ss[l]? = some y' → LE.all b ∉ y'.q.log ∧ ∀ i, True → ∀ e ∈ y'.q.log, ¬ e.wrote b i := by
    intro b i0 hi0 l y' g1 g2 hy'
    cases hwl : y'.wr with
    | false => exact ⟨(quiet_of (i := 0) hwl).1, fun i _ => (quiet_of hwl).2⟩
    | true => have := (I.wrs l y' hy' hwl).1 (hall l g2); omega
  have both : ∀ b y i0, live y → E ≤ i0 → i0 ≤ ops.length → b < (S i0).n → ((S i0).heap.get b = some y ↔ (S ops.length).heap.get b = some y) := by
    intro b y i0 hyl h6 h7 h8
    constructor
    · intro hg
      obtain ⟨y2, hy2, hag⟩ := tx_path hC hY X hw0 ops.length i0 h7 (Nat.le_refl _) (hq b i0 h6) y hg
      rw [hy2, hag.eq]
    · intro hg
      obtain ⟨z, hz, hzl⟩ := tx_live hC hY X hw0 ops.length i0 h7 (Nat.le_refl _) h8 y hg hyl
      obtain ⟨y2, hy2, hag⟩ := tx_path hC hY X hw0 ops.length i0 h7 (Nat.le_refl _) (hq b i0 h6) z hz
      rw [hg] at hy2
      rw [hz, Option.some.inj hy2, hag.eq]
  have hknown : ∀ b y, live y → (∃ i, TL ops S T L b i) → (S ops.length).heap.get b = some y → h b = some y := by
    intro b y hyl hT hg
    by_cases hbE : b < (S E).n
    · exact (I.h1 b y hyl hbE hT).2 ((both b y E hyl (Nat.le_refl _) I.top hbE).2 hg)
    · obtain ⟨i, hi⟩ := hT
      rcases hi with hi | ⟨j, g1, g2, g3, g4⟩
      · have := hp.tn b i hi
        have := tx_n hC hY X hw0 E 0 (by omega) I.top
        omega
      · have hEj : E ≤ j := by
          rcases Nat.lt_or_ge j E with h6 | h6
          · have := tx_n hC hY X hw0 E (j + 1) (by omega) I.top; omega
          · exact h6
        exact (I.h2 j b y hyl g2 hEj g1 g3 g4).2 ((both b y (j + 1) hyl (by omega) (by omega) g4).2 hg)
  refine ⟨⟨I.ext, fun b r hr => ?_, I.fr, ?_, I.unch⟩, ⟨by rw [I.size, (A_sz X _ (Nat.le_refl _)).1], fun t => ?_, by rw [I.defs, (A_sz X _ (Nat.le_refl _)).2]; exact ha.defs.mono I.ext⟩⟩
  · rcases I.new b r hr with h1 | ⟨j, h1, h2, h3, h4⟩
    · exact .inl h1
    · have := tx_n hC hY X hw0 j 0 (by omega) (by omega)
      have := tx_n hC hY X hw0 ops.length (j + 1) (by omega) (Nat.le_refl _)
      exact .inr ⟨by omega, by omega⟩
  · rw [← hTLe]
    refine ⟨fun b y hy hT => ?_, fun b b' r r' y y' hy hy' hl hl' hT hT' hr hr' e => I.good.inj b b' r r' y y' (hknown b y hl hT hy) (hknown b' y' hl' hT' hy') hl hl' hT hT' hr hr' e, I.good.old⟩
    by_cases hl : live y
    · exact I.good.sat b y (hknown b y hl hT hy) hT
    · cases y <;> first | exact trivial | exact absurd trivial hl
  · by_cases hex : ∃ (j : Nat) (o : Oper), ops[j]? = some o ∧ o.dst = some t
    · obtain ⟨j, o, ho, hd⟩ := hex
      have hj := (List.getElem?_eq_some_iff.1 ho).1
      have hx : ss[j]? = some (ss[j]'(by rw [X.len]; exact hj)) := List.getElem?_eq_getElem _
      obtain ⟨g1, g2⟩ := hwf.dst j o t ho hd
      rw [A_val X hx ho hd g1 g2 ops.length hj (Nat.le_refl _)]
      exact I.val j _ o t hx (hall j hj) ho hd
    · have hno : ∀ (j : Nat) (o : Oper), ops[j]? = some o → o.dst ≠ some t := fun j o ho hd => hex ⟨j, o, ho, hd⟩
      rw [A_old X ops.length (Nat.le_refl _) (fun j o _ ho => hno j o ho), I.old t (fun j o ho _ => hno j o ho)]
      exact (ha.get t).mono I.ext
/-- What an operation looks at is told. -/
theorem dv_looks {L : Nat → Bool} {E : Nat} {h : Nat → Option ABlk} {ρ : Env} {a : Act} {w : World} (I : DInv ops ss S (A 0).sz ρ0 T w0 a0 L E h ρ a w) {k : Nat} {o : Oper} (ho : ops[k]? = some o) (hrdy : ∀ j, (W ops k).testBit j = true → L j = true) {t : Nat} (ht : t ∈ opTmps ops o) : VR ρ ((A k).get t) (a.tmps.getD t undef) := by
  have _all := (⟨hC, hY, hop, hw0, hp⟩ : _ ∧ _ ∧ _ ∧ _ ∧ _)
  have hk := (List.getElem?_eq_some_iff.1 ho).1
  by_cases hex : ∃ (j : Nat) (q : Oper), ops[j]? = some q ∧ q.dst = some t
  · obtain ⟨j, q, hq, hd⟩ := hex
    have hj := (List.getElem?_eq_some_iff.1 hq).1
    have hbit := hwf.looks k j o q t ho hq ht hd
    have hjk := hwf.lt k o ho j hbit
    have hx : ss[j]? = some (ss[j]'(by rw [X.len]; exact hj)) := List.getElem?_eq_getElem _
    obtain ⟨g1, g2⟩ := hwf.dst j q t hq hd
    rw [A_val X hx hq hd g1 g2 k hjk (by omega)]
    exact I.val j _ q t hx (hrdy j hbit) hq hd
  · have hno : ∀ (j : Nat) (o : Oper), ops[j]? = some o → o.dst ≠ some t := fun j o ho hd => hex ⟨j, o, ho, hd⟩
    rw [A_old X k (by omega) (fun j o _ ho => hno j o ho), I.old t (fun j o ho _ => hno j o ho)]
    exact (ha.get t).mono I.ext
theorem waits_ready {k : Nat} {o : Oper} (ho : ops[k]? = some o) {L : Nat → Bool} (hcl : ∀ k j, L k = true → (W ops k).testBit j = true → L j = true) (hall : ∀ e ∈ o.after, Region.binds .any e = true → L e.on = true) : ∀ j, (W ops k).testBit j = true → L j = true := by
  have _all := (⟨hC, hY, hop, X, hw0, hp, hwf, ha⟩ : _ ∧ _ ∧ _ ∧ _ ∧ _ ∧ _ ∧ _ ∧ _)
  intro j hj
  obtain ⟨e, he, hb, h1⟩ := (W_spec ho).1 hj
  rcases h1 with h1 | h1
  · rw [← h1]; exact hall e he hb
  · refine hcl e.on j (hall e he hb) ?_
    unfold W
    rw [List.getD_eq_getElem?_getD] at h1 ⊢
    by_cases hlt : e.on < k
    · rwa [List.getElem?_take_of_lt hlt] at h1
    · rw [List.getElem?_eq_none (by simp; omega)] at h1
      simp at h1
/-- All orders. -/
theorem dv_any {r : Option Nat} {n : Nat} {Q : Exit → Act → World → Prop} (hQ : ∀ ρ a w, Post ρ0 T (S 0) w0 ρ (S ops.length) w → ActR ρ (A ops.length) a → Q .normal a w) :
    ∀ (u : Nat) (listed : Array Bool) (E : Nat) (h : Nat → Option ABlk) (ρ : Env) (a : Act) (w : World), listed.size = ops.length → (List.range ops.length).countP (fun j => !listed.getD j true) = u → DInv ops ss S (A 0).sz ρ0 T w0 a0 (fun j => listed.getD j false) E h ρ a w → wpAnyIn (FW r) n P .any opsA Q u listed a w
  | 0, listed, E, h, ρ, a, w, hsz, hu, I => by
    have hall : ∀ j, j < ops.length → listed.getD j true = true := fun j hj => by
      have := List.countP_eq_zero.1 hu j (List.mem_range.2 hj)
      simpa using this
    have hall2 : ∀ j, j < ops.length → listed.getD j false = true := fun j hj => by
      have h1 := hall j hj
      have h2 : j < listed.size := by omega
      simpa [h2] using h1
    obtain ⟨g1, g2⟩ := dv_end hC hY hop X hw0 hp hwf ha I hall2
    refine ⟨?_, hQ ρ a w g1 g2⟩
    cases hr : Region.ready .any opsA listed with
    | nil => rfl
    | cons i rest =>
      obtain ⟨hun, o, ho, _⟩ := mem_ready.1 (show i ∈ Region.ready .any opsA listed by rw [hr]; exact List.mem_cons_self ..)
      have hi : i < ops.length := by
        have := (Array.getElem?_eq_some_iff.1 ho).1
        rw [size_eq hC hY hop X hw0 hp hwf ha] at this
        exact this
      rw [hall i hi] at hun
      cases hun
  | u + 1, listed, E, h, ρ, a, w, hsz, hu, I => by
    have hex : ∃ j, j < ops.length ∧ listed.getD j true = false := by
      have : 0 < (List.range ops.length).countP fun j => !listed.getD j true := by omega
      obtain ⟨j, hj, hp⟩ := List.countP_pos_iff.1 this
      exact ⟨j, List.mem_range.1 hj, by simpa using hp⟩
    have hready : ∀ j, j < ops.length → listed.getD j true = false → ∃ i, i ∈ Region.ready .any opsA listed := by
      intro j
      induction j using Nat.strongRecOn with
      | _ j ih =>
        intro hj hun
        have ho : ops[j]? = some ops[j] := List.getElem?_eq_getElem hj
        by_cases hall : ∀ e ∈ ops[j].after, Region.binds .any e = true → listed.getD e.on false = true
        · exact ⟨j, mem_ready.2 ⟨hun, ops[j], by rw [at_eq hC hY hop X hw0 hp hwf ha]; exact ho, hall⟩⟩
        · simp only [Classical.not_forall] at hall
          obtain ⟨e, he, hb, hno⟩ := hall
          have hbit : (W ops j).testBit e.on = true := (W_spec ho).2 ⟨e, he, hb, .inl rfl⟩
          have hlt := hwf.lt j _ ho _ hbit
          refine ih e.on hlt (by omega) ?_
          have hs : e.on < listed.size := by omega
          simpa [hs] using hno
    refine ⟨fun h0 => ?_, fun i hi => ?_⟩
    · obtain ⟨j, hj, hun⟩ := hex
      obtain ⟨i, hi⟩ := hready j hj hun
      rw [h0] at hi
      cases hi
    · obtain ⟨hun, o, ho, hall⟩ := mem_ready.1 hi
      rw [at_eq hC hY hop X hw0 hp hwf ha] at ho
      have hil := (List.getElem?_eq_some_iff.1 ho).1
      have hx : ss[i]? = some (ss[i]'(by rw [X.len]; exact hil)) := List.getElem?_eq_getElem _
      generalize (ss[i]'(by rw [X.len]; exact hil)) = x at hx
      have hLf : (fun j => listed.getD j false) i = false := by
        show listed.getD i false = false
        have h2 : i < listed.size := by omega
        simpa [h2] using hun
      have hrdy := waits_ready hC hY hop X hw0 hp hwf ha ho (L := fun j => listed.getD j false) I.closed hall
      have hpre := dv_pre hC hY X hw0 hp I hx hLf hrdy
      obtain ⟨q1, q2, q3, q4⟩ := X.at_ i x o hx ho
      -- what follows
      have follow : ∀ ρ' w' v', Post ρ (TK S i x) x.p w ρ' x.q w' → VR ρ' x.v v' → wpAnyIn (FW r) n P .any opsA Q u (listed.setIfInBounds i true) (a.put o.dst v') w' := by
        intro ρ' w' v' hpost hv
        obtain ⟨E', h', I'⟩ := dv_step hC hY X hw0 hp I hx ho hLf hrdy (fun d hd => hwf.dst i o d ho hd) hpost hv
        have hL : updL (fun j => listed.getD j false) i = fun j => (listed.setIfInBounds i true).getD j false := by
          funext j
          unfold updL
          by_cases hji : j = i
          · subst hji
            have h2 : j < listed.size := by omega
            simp [h2]
          · rw [if_neg hji]
            simp [Array.getD_eq_getD_getElem?, Array.getElem?_setIfInBounds, Ne.symm hji]
        rw [hL] at I'
        refine dv_any hQ u _ E' h' ρ' _ w' (by simpa using hsz) ?_ I'
        have hcnt : ∀ m, i < m → (List.range m).countP (fun j => !(listed.setIfInBounds i true).getD j true) + 1 = (List.range m).countP (fun j => !listed.getD j true) := by
          intro m
          induction m with
          | zero => intro h; omega
          | succ m ih =>
            intro him
            rw [List.range_succ, List.countP_append, List.countP_append, List.countP_singleton, List.countP_singleton]
            by_cases hm : m = i
            · subst hm
              have hsame : (List.range m).countP (fun j => !(listed.setIfInBounds m true).getD j true) = (List.range m).countP (fun j => !listed.getD j true) := by
                refine List.countP_congr (fun j hj => ?_)
                have : j ≠ m := by have := List.mem_range.1 hj; omega
                simp [Array.getD_eq_getD_getElem?, Array.getElem?_setIfInBounds, Ne.symm this]
              have h2 : m < listed.size := by omega
              rw [hsame, hun]
              simp [h2]
            · have := ih (by omega)
              have e : (listed.setIfInBounds i true).getD m true = listed.getD m true := by
                simp [Array.getD_eq_getD_getElem?, Array.getElem?_setIfInBounds, Ne.symm hm]
              rw [e]
              omega
        have := hcnt ops.length hil
        omega
      unfold wpOpIn
      rw [at_eq hC hY hop X hw0 hp hwf ha, ho]
      have hguard : ∀ b, wantedA ops o (A i) = some b → Region.wanted o (yielded opsA a.tmps) = b := fun b hb => wanted_ok hb hop (fun j c d hg hd => dv_looks hC hY hop X hw0 hp hwf ha I ho hrdy (by
        unfold opTmps
        rw [hg]
        refine List.mem_append_right _ ?_
        show d ∈ (ops[j]?.bind (fun x => x.dst)).toList
        rw [hd]
        exact List.mem_singleton.2 rfl))
      rcases q4 with ⟨q5, q6⟩ | ⟨q5, q6, q7⟩
      · simp only [hguard true q5, if_true]
        refine oneVal_ok hC hY q6 hpre (fun y hy => ?_) (fun ρ' w' hpost v' hv => follow ρ' w' v' hpost hv)
        cases y with
        | tmp t =>
          refine dv_looks hC hY hop X hw0 hp hwf ha I ho hrdy ?_
          unfold opTmps
          refine List.mem_append_left _ (List.mem_filterMap.2 ⟨.tmp t, Array.mem_toList_iff.2 hy, rfl⟩)
        | const v => exact ofV_ok 3 v
        | global g => exact .top _
        | func f => exact .func f [] [] #[] #[] .nil .nil
      · simp only [hguard false q5, Bool.false_eq_true, if_false]
        refine ⟨fun _ _ => trivial, ?_⟩
        refine follow ρ w undef ?_ (by rw [q6]; exact undef_ok)
        rw [q7] at hpre ⊢
        exact Post.refl hpre
end
section
variable {P : Program} {C : Callee} {Y : Yielder} {ρ : Env} {T : Nat → Nat → Prop} {s s' : St} {w : World} {aa : AAct} {a : Act}
theorem regOps_mono {R : Bool} {ops : List Oper} {draw : Bool} {x : OR} (hC : CSound P C) (hY : YSound P Y) (hwf : WfS s) (h : regOps P C Y R ops draw aa s = x) (hs : x.st = some s') : Mono s s' := by
  unfold regOps at h
  split at h
  · split at h
    · cases x with
      | no => cases hs
      | pan aa1 v s1 =>
        exfalso
        have : ∀ (l : List Oper) ws rs aa s, drawOps P C Y ops l ws rs aa s ≠ .pan aa1 v s1 := by
          intro l
          induction l with
          | nil => intro ws rs aa s h; unfold drawOps at h; cases h
          | cons o l ih =>
            intro ws rs aa s h
            cases ws with
            | nil => unfold drawOps at h; cases h
            | cons w ws =>
              unfold drawOps at h
              split at h
              · split at h
                · split at h
                  · cases h
                  · exact ih _ _ _ _ h
                · cases h
              · exact ih _ _ _ _ h
              · cases h
        exact this _ _ _ _ _ h
      | ok aa1 s1 =>
        cases hs
        obtain ⟨ss, A, S, X, h1, h2, h3, h4⟩ := draw_Text h
        subst h2 h4
        have key : ∀ k, k ≤ ops.length → Mono (S 0) (S k) := by
          intro k
          induction k with
          | zero => exact fun _ => Mono.refl _
          | succ k ih =>
            intro hk
            have m1 := ih (by omega)
            obtain ⟨x, o, hx, _⟩ := tx_get hC hY X hwf (show k < ops.length by omega)
            have hwk := tx_wf hC hY X hwf k (by omega)
            obtain ⟨m, p1, p2, p3, p4, p5, p6⟩ := tx_step hC hY X hwf hx hwk
            have hwp : WfS x.p := by intro b hb; rw [p1]; exact hwk b (by omega)
            refine m1.trans ⟨by have := m.n; omega, fun e he => by rw [p6]; exact List.mem_append_right _ he, fun _ => tx_wf hC hY X hwf (k + 1) hk, fun _ b y hy hn => ?_, fun _ b y hb hy hl => ?_, fun _ e he => ?_, fun _ hb e he => ?_⟩
            · rw [p4]
              have := m.keep hwp b y (by rw [p1]; exact hy) (fun hm => hn (by rw [p6]; exact List.mem_append_left _ hm))
              exact Keep.mono (fun e he => by rw [p6]; exact List.mem_append_left _ he) this
            · rw [p4] at hy
              obtain ⟨z, hz, hzl⟩ := m.lv hwp b y (by omega) hy hl
              exact ⟨z, by rw [← p1]; exact hz, hzl⟩
            · rw [p6] at he
              rcases List.mem_append.1 he with he | he
              · rcases m.lw hwp e he with h5 | h5 | ⟨z, h5, h6⟩
                · rw [p3] at h5; cases h5
                · exact .inr (.inl (by omega))
                · exact .inr (.inr ⟨z, by rw [← p1]; exact h5, h6⟩)
              · exact .inl he
            · rw [p6] at he
              rcases List.mem_append.1 he with he | he
              · have := m.lb hwp (by rw [p3]; simp) e he
                omega
              · have := hb e he
                have := m.n
                omega
        exact key _ (Nat.le_refl _)
    · subst h; cases hs
  · exact runOps_mono hC hY _ hwf h hs
/-- A region. -/
theorem regOps_ok {R : Bool} {id : Nat} {opsA : Array Oper} {draw : Bool} {x : OR} (hm : P.follows .mixedOrders = true) (hC : CSound P C) (hY : YSound P Y) {r : Option Nat} (hr : R = false → r = none) {n : Nat} {Q : Exit → Act → World → Prop}
    (h : regOps P C Y R opsA.toList draw aa s = x) (hs : x.st = some s') (hp : Pre ρ T s s' w) (ha : ActR ρ aa a) (hk : ORQ Q ρ T s w x) : (Code.region id opsA draw).wpIn (FW r) n P Q a w := by
  unfold regOps at h
  split at h
  · rename_i hd
    subst hd
    split at h
    · rename_i hwfo
      cases x with
      | no => cases hs
      | pan aa1 v s1 =>
        exfalso
        have : ∀ (l : List Oper) ws rs aa s, drawOps P C Y opsA.toList l ws rs aa s ≠ .pan aa1 v s1 := by
          intro l
          induction l with
          | nil => intro ws rs aa s h; unfold drawOps at h; cases h
          | cons o l ih =>
            intro ws rs aa s h
            cases ws with
            | nil => unfold drawOps at h; cases h
            | cons w ws =>
              unfold drawOps at h
              split at h
              · split at h
                · split at h
                  · cases h
                  · exact ih _ _ _ _ h
                · cases h
              · exact ih _ _ _ _ h
              · cases h
        exact this _ _ _ _ _ h
      | ok aa1 s1 =>
        cases hs
        obtain ⟨ss, A, S, X, h1, h2, h3, h4⟩ := draw_Text h
        subst h1 h2 h3 h4
        have hp' : Pre ρ T (S 0) (S opsA.toList.length) { w with drawn := w.drawn + 1 } := ⟨good_same hp.good rfl ⟨rfl, rfl, rfl, rfl⟩, hp.cov, hp.fresh, hp.wf, hp.tn⟩
        refine wpIn_region_any hm ?_
        have := dv_any hC hY rfl X hp.wf hp' (wf_of hwfo) ha (r := r) (n := n) (Q := Q) (fun ρ' a' w' hpost ha' => hk ρ' a' w' ⟨hpost.ext, hpost.new, hpost.fr, hpost.good, ⟨hpost.unch.os, hpost.unch.tape, hpost.unch.output, hpost.unch.size, hpost.unch.block, hpost.unch.cells⟩⟩ ha') opsA.size (Array.replicate opsA.size false) 0 (S 0).heap.get ρ a { w with drawn := w.drawn + 1 } (by simp) ?_ ?_
        · exact this
        · have : ∀ j ∈ List.range opsA.toList.length, (!(Array.replicate opsA.size false).getD j true) = true := fun j hj => by
            have hjl := List.mem_range.1 hj
            rw [Array.length_toList] at hjl
            simp [Array.getD_eq_getD_getElem?, hjl]
          rw [List.countP_eq_length.2 this]
          simp
        · have e : (fun j => (Array.replicate opsA.size false).getD j false) = fun _ => false := by
            funext j
            simp [Array.getD_eq_getD_getElem?, Array.getElem?_replicate]
            split <;> rfl
          rw [e]
          exact dv_init hC hY rfl X hp.wf hp' (wf_of hwfo) ha
    · subst h; cases hs
  · rename_i hd
    have : draw = false := by simpa using hd
    subst this
    exact wpIn_region_list (runOps_ok rfl hC hY hr _ h hs hp ha hk)
end
end Go.Proofs.YtnodnpehjbhphaaGreatDoor.Rk
