/- What PruneTries returns: true. -/
import Derived.Test.YtjbhlojfmcldjaaPlainTries
import Derived.Test.YtjbhlojfmcldjaaTried2
import Derived.Test.YtjbhlojfmcldjaaPr15
namespace Go.Proofs.Ytjbhlojfmcldjaa
set_option linter.unusedVariables false
open Go.RowKit Go.BigFrame
/-- Which test of the bounds fails first. -/
theorem P.first6 (a b c d e f : Bool) : (a = true) ∨ (a = false ∧ b = true) ∨ (a = false ∧ b = false ∧ c = true) ∨ (a = false ∧ b = false ∧ c = false ∧ d = true) ∨ (a = false ∧ b = false ∧ c = false ∧ d = false ∧ e = true) ∨ (a = false ∧ b = false ∧ c = false ∧ d = false ∧ e = false ∧ f = true)
    ∨ (a = false ∧ b = false ∧ c = false ∧ d = false ∧ e = false ∧ f = false) := by
  cases a <;> cases b <;> cases c <;> cases d <;> cases e <;> cases f <;> simp
theorem Blk.put8 {w : World} {g0 : Nat} {t : TypeId} {a b c d e f g h a' b' c' d' e' f' g' h' : Value} (hk : Blk w g0 t #[a', b', c', d', e', f', g', h']) :
    Blk ((((((((w.setCell ⟨g0, 0, none⟩ a).setCell ⟨g0, 1, none⟩ b).setCell ⟨g0, 2, none⟩ c).setCell ⟨g0, 3, none⟩ d).setCell ⟨g0, 4, none⟩ e).setCell ⟨g0, 5, none⟩ f).setCell ⟨g0, 6, none⟩ g).setCell ⟨g0, 7, none⟩ h) g0 t #[a, b, c, d, e, f, g, h] := by
  have := (((((((hk.set_ 0 a).set_ 1 b).set_ 2 c).set_ 3 d).set_ 4 e).set_ 5 f).set_ 6 g).set_ 7 h
  simpa [World.setCells] using this
/-- A list of one destination, newly laid. -/
theorem DestsAt.one (w : World) (d : P.Dest) : DestsAt (w.alloc (.cells d.cells.toArray 36)) (w.heap.size + 1) (some ⟨w.heap.size, 0, none⟩) 1 [d] := by
  refine ⟨by simp [dest_len], fun _ => ⟨_, rfl, by simp, fun j u hu => ?_⟩⟩
  rw [Addr.add_lit, Nat.zero_add, (Blk.new w 36 d.cells.toArray).cell, List.getElem?_toArray]
  simpa using hu
theorem tryLeg_key (retry backoff : Int) (q : Nat) (h : 0 ≤ retry) : (retry = 0 ∧ P.tryLeg retry backoff (q + 1) = ⟨P.tN, 2, (q : Int) + 1, P.dueAt 100 backoff ((q : Int) + 1), P.tP, P.tX⟩) ∨ (0 < retry ∧ (q : Int) + 1 ≤ retry ∧ P.tryLeg retry backoff (q + 1) = ⟨P.tN, 2, (q : Int) + 1, P.dueAt 100 backoff ((q : Int) + 1), P.tP, P.tX⟩)
    ∨ (0 < retry ∧ retry < (q : Int) + 1 ∧ P.tryLeg retry backoff (q + 1) = ⟨P.tN, 4, retry + 1, 0, P.tP, P.tX⟩) := by
  unfold P.tryLeg
  rw [if_neg (by omega)]
  by_cases h0 : retry = 0
  · exact Or.inl ⟨h0, by rw [if_pos (Or.inl h0)]; simp⟩
  · by_cases h1 : (q : Int) + 1 ≤ retry
    · exact Or.inr (Or.inl ⟨by omega, h1, by rw [if_pos (by omega)]; simp⟩)
    · exact Or.inr (Or.inr ⟨by omega, by omega, by rw [if_neg (by omega)]⟩)
theorem tryLeg_wf {retry backoff : Int} {q : Nat} (h0 : 0 ≤ retry) (h1 : retry ≤ 30) (hq : q ≤ 60) : ∀ l ∈ [P.tryLeg retry backoff q], (Lit.int .i64 l.tries).wf = true := by
  intro l hl
  obtain rfl : l = P.tryLeg retry backoff q := by simpa using hl
  have hb : -9223372036854775808 ≤ (P.tryLeg retry backoff q).tries ∧ (P.tryLeg retry backoff q).tries ≤ 9223372036854775807 := by
    unfold P.tryLeg
    split
    · simp
    · split
      · simp; omega
      · simp; omega
  have e1 : IntKind.i64.min = -9223372036854775808 := rfl
  have e2 : IntKind.i64.max = 9223372036854775807 := rfl
  unfold Lit.wf
  simp only [e1, e2]
  simp
  exact hb
theorem small_wf {a : Int} (h0 : -1000000 ≤ a) (h1 : a ≤ 1000000) : (Lit.int .i64 a).wf = true := by
  have e1 : IntKind.i64.min = -9223372036854775808 := rfl
  have e2 : IntKind.i64.max = 9223372036854775807 := rfl
  unfold Lit.wf
  simp only [e1, e2]
  simp
  omega
set_option maxRecDepth 100000 in
set_option maxHeartbeats 4000000 in
theorem pruneTries_any (retry backoff n : Int) (w : World) :
    Calls Try.prog 6 #[.int .i64 retry, .int .i64 backoff, .int .i64 n] w fun e w' => e = .returned (.bool true) ∧ Below w.heap.size w w' := by
  have AL := Lib.hid (fun W => alive_any W)
  rcases P.first6 (decide (retry < 0)) (decide (30 < retry)) (decide (backoff < 1)) (decide (10000 < backoff)) (decide (n < 0)) (decide (40 < n)) with t1 | ⟨t1, t2⟩ | ⟨t1, t2, t3⟩ | ⟨t1, t2, t3, t4⟩ | ⟨t1, t2, t3, t4, t5⟩ | ⟨t1, t2, t3, t4, t5, t6⟩ | ⟨t1, t2, t3, t4, t5, t6⟩
  iterate 6
    · go_enter Try.func6, Try.ntmps6
      go_wp2_with fail
      refine (AL.out _).mono ?_
      rintro x w2 ⟨rfl, hb2⟩
      have B2 := Lib.hid hb2
      clear hb2
      go_wp2
      go_ret
      exact ⟨rfl, B2.out⟩
  have x1 : 0 ≤ retry := by simpa using t1
  have x2 : retry ≤ 30 := by simpa using t2
  have x3 : 1 ≤ backoff := by simpa using t3
  have x4 : backoff ≤ 10000 := by simpa using t4
  have x5 : 0 ≤ n := by simpa using t5
  have x6 : n ≤ 40 := by simpa using t6
  have d0 : DestsAt ((w.alloc (.cells #[.string ⟨#[100]⟩, .int .i64 1, .bool false, .int .i64 0, .string ⟨#[]⟩, .int .i64 retry, .int .i64 backoff, .int .i64 0, .string ⟨#[]⟩] 36)).alloc (.cells #[.string ⟨#[97]⟩, .bool false, .int .i64 0, .string ⟨#[]⟩, .string ⟨#[]⟩, .string ⟨#[]⟩, .string ⟨#[]⟩, .slice (some ⟨w.heap.size, 0, none⟩) 1 1, .int .i64 0] 31)) (w.heap.size + 1) (some ⟨w.heap.size, 0, none⟩) 1 [P.tryDest retry backoff] := (DestsAt.one w (P.tryDest retry backoff)).below ((Below.refl _ _).alloc (by simp) _)
  have k0 := Blk.new (w.alloc (.cells #[.string ⟨#[100]⟩, .int .i64 1, .bool false, .int .i64 0, .string ⟨#[]⟩, .int .i64 retry, .int .i64 backoff, .int .i64 0, .string ⟨#[]⟩] 36)) 31 #[.string ⟨#[97]⟩, .bool false, .int .i64 0, .string ⟨#[]⟩, .string ⟨#[]⟩, .string ⟨#[]⟩, .string ⟨#[]⟩, .slice (some ⟨w.heap.size, 0, none⟩) 1 1, .int .i64 0]
  rw [show (w.alloc (.cells #[.string ⟨#[100]⟩, .int .i64 1, .bool false, .int .i64 0, .string ⟨#[]⟩, .int .i64 retry, .int .i64 backoff, .int .i64 0, .string ⟨#[]⟩] 36)).heap.size = w.heap.size + 1 from by simp] at k0
  have b0 := ((Below.refl w.heap.size w).alloc (Nat.le_refl _) (.cells #[.string ⟨#[100]⟩, .int .i64 1, .bool false, .int .i64 0, .string ⟨#[]⟩, .int .i64 retry, .int .i64 backoff, .int .i64 0, .string ⟨#[]⟩] 36)).alloc (by simp) (.cells #[.string ⟨#[97]⟩, .bool false, .int .i64 0, .string ⟨#[]⟩, .string ⟨#[]⟩, .string ⟨#[]⟩, .string ⟨#[]⟩, .slice (some ⟨w.heap.size, 0, none⟩) 1 1, .int .i64 0] 31)
  have z0 : ((w.alloc (.cells #[.string ⟨#[100]⟩, .int .i64 1, .bool false, .int .i64 0, .string ⟨#[]⟩, .int .i64 retry, .int .i64 backoff, .int .i64 0, .string ⟨#[]⟩] 36)).alloc (.cells #[.string ⟨#[97]⟩, .bool false, .int .i64 0, .string ⟨#[]⟩, .string ⟨#[]⟩, .string ⟨#[]⟩, .string ⟨#[]⟩, .slice (some ⟨w.heap.size, 0, none⟩) 1 1, .int .i64 0] 31)).heap.size = w.heap.size + 2 := by simp
  have LE := Lib.hid (legs_any ⟨#[97]⟩ ⟨#[]⟩ ⟨#[]⟩ ⟨#[]⟩ ⟨#[]⟩ false 0 0 (some ⟨w.heap.size, 0, none⟩) 1 1 [P.tryDest retry backoff] none 0 0 [] P.tP (w.heap.size + 1) ((w.alloc (.cells #[.string ⟨#[100]⟩, .int .i64 1, .bool false, .int .i64 0, .string ⟨#[]⟩, .int .i64 retry, .int .i64 backoff, .int .i64 0, .string ⟨#[]⟩] 36)).alloc (.cells #[.string ⟨#[97]⟩, .bool false, .int .i64 0, .string ⟨#[]⟩, .string ⟨#[]⟩, .string ⟨#[]⟩, .string ⟨#[]⟩, .slice (some ⟨w.heap.size, 0, none⟩) 1 1, .int .i64 0] 31)) d0 Reads.nil (by rw [z0]; omega) (by simp) (by simp))
  have D0 := Lib.hid d0
  have K0 := Lib.hid k0
  have B0 := Lib.hid b0
  have Z0 := Lib.hid z0
  clear d0 k0 b0 z0
  have HWC : ∀ d ∈ [P.tryDest retry backoff], (Lit.int .i64 d.chain).wf = true := fun d hd => by
    obtain rfl : d = P.tryDest retry backoff := by simpa using hd
    exact small_wf (show -1000000 ≤ (1 : Int) by decide) (show (1 : Int) ≤ 1000000 by decide)
  have HWB : ∀ d ∈ [P.tryDest retry backoff], (Lit.int .i64 d.backoff).wf = true := fun d hd => by
    obtain rfl : d = P.tryDest retry backoff := by simpa using hd
    exact small_wf (show -1000000 ≤ backoff by omega) (show backoff ≤ 1000000 by omega)
  have HWC := Lib.hid HWC
  have HWB := Lib.hid HWB
  have HD0 := Lib.hid (show P.tryDone retry 0 = -1 from by unfold P.tryDone; rw [if_neg (by omega)])
  go_enter Try.func6, Try.ntmps6
  go_wp2_with fail
  clear t1 t2 t3 t4 t5 t6
  refine LE.out.mono ?_
  rintro x w2 ⟨v, rfl, hown, hb2⟩
  have hown : OwnL w2 ((w.alloc (.cells #[.string ⟨#[100]⟩, .int .i64 1, .bool false, .int .i64 0, .string ⟨#[]⟩, .int .i64 retry, .int .i64 backoff, .int .i64 0, .string ⟨#[]⟩] 36)).alloc (.cells #[.string ⟨#[97]⟩, .bool false, .int .i64 0, .string ⟨#[]⟩, .string ⟨#[]⟩, .string ⟨#[]⟩, .string ⟨#[]⟩, .slice (some ⟨w.heap.size, 0, none⟩) 1 1, .int .i64 0] 31)).heap.size v [P.tryLeg retry backoff 0] := hown
  rw [Z0.out] at hown
  obtain ⟨g, c2, hv, hgb, hgl⟩ := World.ownsRow.form hown (by simp)
  have hv : v = .slice (some ⟨g, 0, none⟩) 1 c2 := hv
  subst hv
  have hz2 : w.heap.size + 2 ≤ w2.heap.size := by have := hb2.size; rw [Z0.out] at this; exact this
  have D2 := Lib.hid (D0.out.below (hb2.mono (by rw [Z0.out]; omega)))
  have K2 := Lib.hid (K0.out.below hb2 (by rw [Z0.out]; omega))
  have B2 := Lib.hid (B0.out.trans (hb2.mono (by rw [Z0.out]; omega)))
  have O2 := Lib.hid (hown.alloc (.cells #[.int .i64 1, .int .i64 1, .int .i64 0, .int .i64 3, .int .i64 (-1), .string ⟨#[]⟩, .int .i64 0, .slice (some ⟨g, 0, none⟩) 1 c2] 25))
  have R2 := Lib.hid (Blk.new w2 25 #[.int .i64 1, .int .i64 1, .int .i64 0, .int .i64 3, .int .i64 (-1), .string ⟨#[]⟩, .int .i64 0, .slice (some ⟨g, 0, none⟩) 1 c2])
  clear hown hb2 D0 K0 B0 LE
  go_wp2_with fail
  go_loopw [9, 10] (fun du x wr => ∃ (q : Nat) (dv : Int) (gq cq : Nat), (q : Int) ≤ n ∧ x = .int .i64 ((q : Int) + 1) ∧ du = .int .i64 dv ∧ ((retry = 0 ∨ (q : Int) + 1 ≤ retry) → dv ≤ P.dueAt 100 backoff ((q : Int) + 1)) ∧ Blk wr w2.heap.size 25 #[.int .i64 1, .int .i64 1, .int .i64 0, .int .i64 3, .int .i64 (P.tryDone retry q), .string ⟨#[]⟩, .int .i64 0, .slice (some ⟨gq, 0, none⟩) 1 cq] ∧ gq ≠ w2.heap.size ∧ OwnL wr (w.heap.size + 2) (.slice (some ⟨gq, 0, none⟩) 1 cq) [P.tryLeg retry backoff q] ∧ Below w2.heap.size w2 wr) (fun _ x _ => (n + 1 - intOf x).toNat)
  case atStart => exact ⟨0, 0, g, c2, by omega, rfl, rfl, fun _ => by have := (P.dueAt_grows backoff 1 x3 x4 (by omega)).2; simp at this ⊢; omega, by rw [HD0.out]; exact R2.out, by omega, O2.out, (Below.refl _ _).alloc (Nat.le_refl _) _⟩
  case round =>
    obtain ⟨q, dv, gq, cq, hq, rfl, rfl, hdv, hrow, hgq, how, hbel⟩ := hrel
    have ROq := Lib.hid hrow
    have OWq := Lib.hid how
    have BEq := Lib.hid hbel
    have DVq := Lib.hid hdv
    have hzr := hrow.lt
    have c0 := fun i => hrow.cell i
    have c1 := fun i => (K2.out.below hbel (by omega)).cell i
    clear hrow how hbel hdv
    by_cases hlt : (q : Int) + 1 ≤ n
    · have t1 : decide ((q : Int) + 1 ≤ n) = true := by simpa using hlt
      have TR := tried_any ⟨#[97]⟩ ⟨#[]⟩ ⟨#[]⟩ ⟨#[]⟩ ⟨#[]⟩ false 0 0 (some ⟨w.heap.size, 0, none⟩) 1 1 [P.tryDest retry backoff] 1 1 0 3 (P.tryDone retry q) 0 ⟨#[]⟩ (some ⟨gq, 0, none⟩) 1 cq [P.tryLeg retry backoff q] P.tN P.tX 100 wr.heap.size wr (OWq.out.legsAt rfl) ((D2.out.below (BEq.out.mono (by omega))).more (by omega)) (Nat.le_refl _) (by omega) (by omega) HWC.out HWB.out (small_wf (by decide) (by decide)) (tryLeg_wf x1 x2 (by omega)) (by unfold maxLen; decide)
      obtain ⟨e1, e2⟩ := P.try_step retry backoff q x1 x2 (by omega)
      rw [e1, e2] at TR
      have TR := Lib.hid TR
      clear e1 e2
      go_wp2_with fail
      refine TR.out.mono ?_
      rintro x w3 ⟨v, rfl, hown, hb3⟩
      obtain ⟨g3, c3, hv, hgb3, hgl3⟩ := World.ownsRow.form hown (by simp)
      have hv : v = .slice (some ⟨g3, 0, none⟩) 1 c3 := hv
      subst hv
      have hg3 : g3 ≠ w2.heap.size := by omega
      have hg3' : ¬ w2.heap.size = g3 := by omega
      have r3 := ROq.out.below hb3 ROq.out.lt
      have f3 := fun i => r3.frozen i
      have r8 := r3.put8 (a := .int .i64 1) (b := .int .i64 1) (c := .int .i64 0) (d := .int .i64 3) (e := .int .i64 (P.tryDone retry (q + 1))) (f := .string ⟨#[]⟩) (g := .int .i64 0) (h := .slice (some ⟨g3, 0, none⟩) 1 c3)
      have o8 : OwnL ((((((((w3.setCell ⟨w2.heap.size, 0, none⟩ (.int .i64 1)).setCell ⟨w2.heap.size, 1, none⟩ (.int .i64 1)).setCell ⟨w2.heap.size, 2, none⟩ (.int .i64 0)).setCell ⟨w2.heap.size, 3, none⟩ (.int .i64 3)).setCell ⟨w2.heap.size, 4, none⟩ (.int .i64 (P.tryDone retry (q + 1)))).setCell ⟨w2.heap.size, 5, none⟩ (.string ⟨#[]⟩)).setCell ⟨w2.heap.size, 6, none⟩ (.int .i64 0)).setCell ⟨w2.heap.size, 7, none⟩ (.slice (some ⟨g3, 0, none⟩) 1 c3)) (w.heap.size + 2) (.slice (some ⟨g3, 0, none⟩) 1 c3) [P.tryLeg retry backoff (q + 1)] := by
        repeat (refine OwnL.far2 ?_ (by simpa using hg3) _)
        exact hown.less (by omega)
      have b8 : Below w2.heap.size w2 ((((((((w3.setCell ⟨w2.heap.size, 0, none⟩ (.int .i64 1)).setCell ⟨w2.heap.size, 1, none⟩ (.int .i64 1)).setCell ⟨w2.heap.size, 2, none⟩ (.int .i64 0)).setCell ⟨w2.heap.size, 3, none⟩ (.int .i64 3)).setCell ⟨w2.heap.size, 4, none⟩ (.int .i64 (P.tryDone retry (q + 1)))).setCell ⟨w2.heap.size, 5, none⟩ (.string ⟨#[]⟩)).setCell ⟨w2.heap.size, 6, none⟩ (.int .i64 0)).setCell ⟨w2.heap.size, 7, none⟩ (.slice (some ⟨g3, 0, none⟩) 1 c3)) := by
        repeat (refine Below.setCell ?_ (by simp) _)
        exact BEq.out.trans (hb3.mono BEq.out.size)
      have R8 := Lib.hid r8
      have O8 := Lib.hid o8
      have B8 := Lib.hid b8
      have own3 := Lib.hid hown
      have c8 := fun i => r8.cell i
      have c3' := fun i => r3.cell i
      clear TR c0 c1 t1 r3 r8 o8 b8 hb3 hown
      obtain ⟨dq1, dq2⟩ := P.dueAt_grows backoff (q + 1) x3 x4 (by omega)
      rw [show ((q + 1 : Nat) : Int) = (q : Int) + 1 from by omega] at dq1 dq2
      rcases tryLeg_key retry backoff q x1 with ⟨hr, hl⟩ | ⟨hr, hr2, hl⟩ | ⟨hr, hr2, hl⟩
      · have DV := Lib.hid (DVq.out (Or.inl hr))
        have dv1 := DV.out
        have u1 : decide (P.dueAt 100 backoff ((q : Int) + 1) < dv) = false := by simpa using dv1
        have u2 : decide (P.dueAt 100 backoff ((q : Int) + 1) < 100 + backoff) = false := by simpa using dq2
        have lg := (own3.out.legIn (k := 0) rfl)
        have lg8 := (O8.out.legIn (k := 0) rfl)
        rw [hl] at lg lg8
        have e1 : w3.cell? ⟨g3, 1, none⟩ = some (.int .i64 2) := lg.c1
        have e2 : w3.cell? ⟨g3, 2, none⟩ = some (.int .i64 ((q : Int) + 1)) := lg.c2
        have e3 : w3.cell? ⟨g3, 3, none⟩ = some (.int .i64 (P.dueAt 100 backoff ((q : Int) + 1))) := lg.c3
        have e81 : ((((((((w3.setCell ⟨w2.heap.size, 0, none⟩ (.int .i64 1)).setCell ⟨w2.heap.size, 1, none⟩ (.int .i64 1)).setCell ⟨w2.heap.size, 2, none⟩ (.int .i64 0)).setCell ⟨w2.heap.size, 3, none⟩ (.int .i64 3)).setCell ⟨w2.heap.size, 4, none⟩ (.int .i64 (P.tryDone retry (q + 1)))).setCell ⟨w2.heap.size, 5, none⟩ (.string ⟨#[]⟩)).setCell ⟨w2.heap.size, 6, none⟩ (.int .i64 0)).setCell ⟨w2.heap.size, 7, none⟩ (.slice (some ⟨g3, 0, none⟩) 1 c3)).cell? ⟨g3, 1, none⟩ = some (.int .i64 2) := lg8.c1
        have e82 : ((((((((w3.setCell ⟨w2.heap.size, 0, none⟩ (.int .i64 1)).setCell ⟨w2.heap.size, 1, none⟩ (.int .i64 1)).setCell ⟨w2.heap.size, 2, none⟩ (.int .i64 0)).setCell ⟨w2.heap.size, 3, none⟩ (.int .i64 3)).setCell ⟨w2.heap.size, 4, none⟩ (.int .i64 (P.tryDone retry (q + 1)))).setCell ⟨w2.heap.size, 5, none⟩ (.string ⟨#[]⟩)).setCell ⟨w2.heap.size, 6, none⟩ (.int .i64 0)).setCell ⟨w2.heap.size, 7, none⟩ (.slice (some ⟨g3, 0, none⟩) 1 c3)).cell? ⟨g3, 2, none⟩ = some (.int .i64 ((q : Int) + 1)) := lg8.c2
        have e83 : ((((((((w3.setCell ⟨w2.heap.size, 0, none⟩ (.int .i64 1)).setCell ⟨w2.heap.size, 1, none⟩ (.int .i64 1)).setCell ⟨w2.heap.size, 2, none⟩ (.int .i64 0)).setCell ⟨w2.heap.size, 3, none⟩ (.int .i64 3)).setCell ⟨w2.heap.size, 4, none⟩ (.int .i64 (P.tryDone retry (q + 1)))).setCell ⟨w2.heap.size, 5, none⟩ (.string ⟨#[]⟩)).setCell ⟨w2.heap.size, 6, none⟩ (.int .i64 0)).setCell ⟨w2.heap.size, 7, none⟩ (.slice (some ⟨g3, 0, none⟩) 1 c3)).cell? ⟨g3, 3, none⟩ = some (.int .i64 (P.dueAt 100 backoff ((q : Int) + 1))) := lg8.c3
        have t2 : decide (0 < retry) = false := by simp; omega
        have t3 : (retry == 0) = true := by simpa using hr
        have HR := Lib.hid hr
        clear hr
        clear lg lg8 hl dv1
        have DQ := Lib.hid dq1
        clear dq1 dq2
        go_wp2
        go_roundw
        case rel => exact ⟨q + 1, _, g3, c3, by omega, by go_num, rfl, fun _ => DQ.out, R8.out, hg3, O8.out, B8.out⟩
        case measure => simp [intOf]; omega
      · have DV := Lib.hid (DVq.out (Or.inr hr2))
        have dv1 := DV.out
        have u1 : decide (P.dueAt 100 backoff ((q : Int) + 1) < dv) = false := by simpa using dv1
        have u2 : decide (P.dueAt 100 backoff ((q : Int) + 1) < 100 + backoff) = false := by simpa using dq2
        have lg := (own3.out.legIn (k := 0) rfl)
        have lg8 := (O8.out.legIn (k := 0) rfl)
        rw [hl] at lg lg8
        have e1 : w3.cell? ⟨g3, 1, none⟩ = some (.int .i64 2) := lg.c1
        have e2 : w3.cell? ⟨g3, 2, none⟩ = some (.int .i64 ((q : Int) + 1)) := lg.c2
        have e3 : w3.cell? ⟨g3, 3, none⟩ = some (.int .i64 (P.dueAt 100 backoff ((q : Int) + 1))) := lg.c3
        have e81 : ((((((((w3.setCell ⟨w2.heap.size, 0, none⟩ (.int .i64 1)).setCell ⟨w2.heap.size, 1, none⟩ (.int .i64 1)).setCell ⟨w2.heap.size, 2, none⟩ (.int .i64 0)).setCell ⟨w2.heap.size, 3, none⟩ (.int .i64 3)).setCell ⟨w2.heap.size, 4, none⟩ (.int .i64 (P.tryDone retry (q + 1)))).setCell ⟨w2.heap.size, 5, none⟩ (.string ⟨#[]⟩)).setCell ⟨w2.heap.size, 6, none⟩ (.int .i64 0)).setCell ⟨w2.heap.size, 7, none⟩ (.slice (some ⟨g3, 0, none⟩) 1 c3)).cell? ⟨g3, 1, none⟩ = some (.int .i64 2) := lg8.c1
        have e82 : ((((((((w3.setCell ⟨w2.heap.size, 0, none⟩ (.int .i64 1)).setCell ⟨w2.heap.size, 1, none⟩ (.int .i64 1)).setCell ⟨w2.heap.size, 2, none⟩ (.int .i64 0)).setCell ⟨w2.heap.size, 3, none⟩ (.int .i64 3)).setCell ⟨w2.heap.size, 4, none⟩ (.int .i64 (P.tryDone retry (q + 1)))).setCell ⟨w2.heap.size, 5, none⟩ (.string ⟨#[]⟩)).setCell ⟨w2.heap.size, 6, none⟩ (.int .i64 0)).setCell ⟨w2.heap.size, 7, none⟩ (.slice (some ⟨g3, 0, none⟩) 1 c3)).cell? ⟨g3, 2, none⟩ = some (.int .i64 ((q : Int) + 1)) := lg8.c2
        have e83 : ((((((((w3.setCell ⟨w2.heap.size, 0, none⟩ (.int .i64 1)).setCell ⟨w2.heap.size, 1, none⟩ (.int .i64 1)).setCell ⟨w2.heap.size, 2, none⟩ (.int .i64 0)).setCell ⟨w2.heap.size, 3, none⟩ (.int .i64 3)).setCell ⟨w2.heap.size, 4, none⟩ (.int .i64 (P.tryDone retry (q + 1)))).setCell ⟨w2.heap.size, 5, none⟩ (.string ⟨#[]⟩)).setCell ⟨w2.heap.size, 6, none⟩ (.int .i64 0)).setCell ⟨w2.heap.size, 7, none⟩ (.slice (some ⟨g3, 0, none⟩) 1 c3)).cell? ⟨g3, 3, none⟩ = some (.int .i64 (P.dueAt 100 backoff ((q : Int) + 1))) := lg8.c3
        have t2 : decide (0 < retry) = true := by simpa using hr
        have t3 : (retry == 0) = false := by rw [beq_eq_false_iff_ne]; omega
        have t4 : decide (retry < (q : Int) + 1) = false := by simp; omega
        have t5 : decide ((q : Int) + 1 ≤ retry) = true := by simpa using hr2
        clear lg lg8 hl dv1
        have DQ := Lib.hid dq1
        clear dq1 dq2
        go_wp2
        go_roundw
        case rel => exact ⟨q + 1, _, g3, c3, by omega, by go_num, rfl, fun _ => DQ.out, R8.out, hg3, O8.out, B8.out⟩
        case measure => simp [intOf]; omega
      · have u3 : ¬ (retry = 0 ∨ ((q + 1 : Nat) : Int) + 1 ≤ retry) := by omega
        have lg := (own3.out.legIn (k := 0) rfl)
        have lg8 := (O8.out.legIn (k := 0) rfl)
        rw [hl] at lg lg8
        have e1 : w3.cell? ⟨g3, 1, none⟩ = some (.int .i64 4) := lg.c1
        have e2 : w3.cell? ⟨g3, 2, none⟩ = some (.int .i64 (retry + 1)) := lg.c2
        have e81 : ((((((((w3.setCell ⟨w2.heap.size, 0, none⟩ (.int .i64 1)).setCell ⟨w2.heap.size, 1, none⟩ (.int .i64 1)).setCell ⟨w2.heap.size, 2, none⟩ (.int .i64 0)).setCell ⟨w2.heap.size, 3, none⟩ (.int .i64 3)).setCell ⟨w2.heap.size, 4, none⟩ (.int .i64 (P.tryDone retry (q + 1)))).setCell ⟨w2.heap.size, 5, none⟩ (.string ⟨#[]⟩)).setCell ⟨w2.heap.size, 6, none⟩ (.int .i64 0)).setCell ⟨w2.heap.size, 7, none⟩ (.slice (some ⟨g3, 0, none⟩) 1 c3)).cell? ⟨g3, 1, none⟩ = some (.int .i64 4) := lg8.c1
        have e82 : ((((((((w3.setCell ⟨w2.heap.size, 0, none⟩ (.int .i64 1)).setCell ⟨w2.heap.size, 1, none⟩ (.int .i64 1)).setCell ⟨w2.heap.size, 2, none⟩ (.int .i64 0)).setCell ⟨w2.heap.size, 3, none⟩ (.int .i64 3)).setCell ⟨w2.heap.size, 4, none⟩ (.int .i64 (P.tryDone retry (q + 1)))).setCell ⟨w2.heap.size, 5, none⟩ (.string ⟨#[]⟩)).setCell ⟨w2.heap.size, 6, none⟩ (.int .i64 0)).setCell ⟨w2.heap.size, 7, none⟩ (.slice (some ⟨g3, 0, none⟩) 1 c3)).cell? ⟨g3, 2, none⟩ = some (.int .i64 (retry + 1)) := lg8.c2
        have t2 : decide (0 < retry) = true := by simpa using hr
        have t3 : (retry == 0) = false := by rw [beq_eq_false_iff_ne]; omega
        have t4 : decide (retry < (q : Int) + 1) = true := by simpa using hr2
        have t5 : decide ((q : Int) + 1 ≤ retry) = false := by simp; omega
        have U3 := Lib.hid u3
        clear lg lg8 hl dq1 dq2 u3
        go_wp2
        go_roundw
        case rel => exact ⟨q + 1, _, g3, c3, by omega, by go_num, rfl, fun h => absurd h U3.out, R8.out, hg3, O8.out, B8.out⟩
        case measure => simp [intOf]; omega
    · have t1 : decide ((q : Int) + 1 ≤ n) = false := by simp; omega
      go_wp2_with fail
      refine (AL.out _).mono ?_
      rintro x w4 ⟨rfl, hb4⟩
      have B4 := Lib.hid ((B2.out.trans (BEq.out.mono (by omega))).trans (hb4.mono (by have := B2.out.size; have := BEq.out.size; omega)))
      clear hb4
      go_wp2
      go_ret
      exact ⟨rfl, B4.out⟩
end Go.Proofs.Ytjbhlojfmcldjaa
