/- Part K2 of the proof: the statement that is proved stands in the text that ends with its name. No conditions beyond the card's. -/
import Derived.Test.YtmabpnmnppfgaaaGreatDoorA8
import Derived.Test.YtmabpnmnppfgaaaGreatDoorA9
import Derived.Test.YtmabpnmnppfgaaaGreatDoorG1
import Derived.Test.YtmabpnmnppfgaaaGreatDoorK1
namespace Go.Proofs.YtmabpnmnppfgaaaGreatDoor
set_option linter.unusedVariables false
open Go Go.Proofs Go.RowKit Go.Proofs.YtmabpnmnppfgaaaGreatDoor.Rk
noncomputable def bkSt : List Int → Nat → St
  | [], 0 => b0
  | [], 1 => b1
  | [], _ => b2
  | _ :: _, 0 => b0
  | _ :: _, 1 => c1
  | _ :: _, _ => c2
def BkI (gb base : Nat) (S : Nat → Prop) (ns : List Int) (k : Nat) (w : World) : Prop := ∃ ρ : Env, Kn ρ (bkSt ns k) base w ∧ ρ 0 = some ⟨gb, 0, 34⟩ ∧ (∀ n, ns = [n] → ∃ r, ρ 1 = some r ∧ (r.n : Int) = n) ∧ ∀ b r, ρ b = some r → ¬ S r.blk
section
variable {gb base : Nat} {S : Nat → Prop} {ns : List Int} {k : Nat} {w w' : World}
theorem BkI.below (h : BkI gb base S ns k w) (hb : Below w.heap.size w w') : BkI gb base S ns k w' := by
  obtain ⟨ρ, h1, h2⟩ := h
  exact ⟨ρ, h1.below hb.size (fun j hj => hb.block j hj), h2⟩
theorem BkI.start (hk : Blk w gb 45 (Array.replicate 34 (.slice none 0 0))) (hg : base ≤ gb) (hS : ¬ S gb) (hn : ∀ n, ns = [n] → 0 ≤ n) : BkI gb base S ns 0 w := by
  have hv : ∀ ρ : Env, VRL ρ (List.replicate 34 AV.nils) (Array.replicate 34 (Value.slice none 0 0)).toList := fun ρ => by
    show VRL ρ (List.replicate 34 AV.nils) (List.replicate 34 (Value.slice none 0 0))
    generalize (34 : Nat) = m
    induction m with
    | zero => exact .nil
    | succ m ih => exact .cons _ _ _ _ .nils ih
  have e : bkSt ns 0 = b0 := by cases ns <;> rfl
  have h0 := Kn.start (base := base) hk hg (match ns with | n :: _ => n.toNat | [] => 0) (hv _)
  refine ⟨_, by rw [e]; exact h0, rfl, fun n h => ⟨_, rfl, ?_⟩, fun b r hr => ?_⟩
  rotate_left
  · unfold env1 at hr
    split at hr
    · cases hr; exact hS
    · split at hr
      · cases hr; exact hS
      · cases hr
  subst h
  have := hn n rfl
  show ((n.toNat : Nat) : Int) = n
  omega
theorem BkI.ints (h : BkI gb base S ns k w) (hk : k = 0 ∨ k = 1) {v : Value} {w1 : World} (hN : NumsNew w w1 v ns) (hb : Below w.heap.size w w1) (hS : ∀ B, S B → B < w.heap.size) :
    Calls Tryz.prog 8 #[.pointer (some ⟨gb, 0, none⟩), v] w1 fun e w' => e = .returned (.tuple #[]) ∧ BkI gb base S ns (k + 1) w' ∧ Below base w1 w' ∧ ∀ B, S B → w'.heap[B]? = w1.heap[B]? := by
  obtain ⟨ρ, hk0, hr0, hr1, hr2⟩ := h
  have hs1 := hb.size
  have hold := hk0.good.old
  have hle0 := hk0.le
  have hkn := hk0.below hb.size (fun j hj => hb.block j hj)
  rcases hN with ⟨rfl, rfl⟩ | ⟨g, n, rfl, rfl, hg, hblk⟩
  · have run : ∀ (s : St) (s' : St), ca 8 [.ptr 0 0, .nils] s = some (.ret (.tuple []), s') → Kn ρ s base w1 → Calls Tryz.prog 8 #[.pointer (some ⟨gb, 0, none⟩), .slice none 0 0] w1 fun e w' => e = .returned (.tuple #[]) ∧ (∃ ρ' : Env, Kn ρ' s' base w' ∧ ρ' 0 = some ⟨gb, 0, 34⟩ ∧ (∀ n, ([] : List Int) = [n] → ∃ r, ρ' 1 = some r ∧ (r.n : Int) = n) ∧ ∀ b r, ρ' b = some r → ¬ S r.blk) ∧ Below base w1 w' ∧ ∀ B, S B → w'.heap[B]? = w1.heap[B]? := fun s s' hs hkn => by
      refine (call_at plainB_ mixedB_ TSound.none 100000 300 hs hkn _ (.cons _ _ _ _ (.ptr 0 0 _ hr0) (.cons _ _ _ _ .nils .nil))).mono ?_
      rintro e w' ⟨ρ', v', rfl, hv, hle, hkn', hb', hkp, hwh⟩
      cases hv with
      | tuple _ cs hcs =>
        have : cs = #[] := by
          cases cs with
          | mk l => cases hcs; rfl
        subst this
        exact ⟨rfl, ⟨ρ', hkn', hle _ _ hr0, (fun n h => by cases h), fun b r hr hSr => by
          rcases hwh b r hr with ⟨b2, r2, h3, h4⟩ | h1
          · exact hr2 b2 r2 h3 (by rw [h4]; exact hSr)
          · have := hS _ hSr
            omega⟩, hb', fun B hB => hkp B (by have := hS B hB; omega) (fun b r hr e => hr2 b r hr (by rw [e]; exact hB))⟩
    rcases hk with rfl | rfl
    · exact run b0 b1 (of_isUnit b1_run) hkn
    · exact run b1 b2 (of_isUnit b2_run) hkn
  · obtain ⟨r1, hr1', hn1⟩ := hr1 n rfl
    have run : ∀ (s : St) (s' : St), ca 8 [.ptr 0 0, .slice s.n 0 1 1 1] (s.new (.cells (2 * 3 + 1) [.any 1])) = some (.ret (.tuple []), s') → Kn ρ s base w1 → Calls Tryz.prog 8 #[.pointer (some ⟨gb, 0, none⟩), .slice (some ⟨g, 0, none⟩) 1 1] w1 fun e w' => e = .returned (.tuple #[]) ∧ (∃ ρ' : Env, Kn ρ' s' base w' ∧ ρ' 0 = some ⟨gb, 0, 34⟩ ∧ (∀ m, [n] = [m] → ∃ r, ρ' 1 = some r ∧ (r.n : Int) = m) ∧ ∀ b r, ρ' b = some r → ¬ S r.blk) ∧ Below base w1 w' ∧ ∀ B, S B → w'.heap[B]? = w1.heap[B]? := fun s s' hs hkn => by
      have hle := Env.add_le (ρ := ρ) (r := ⟨g, 0, 1⟩) (hkn.off s.n (Nat.le_refl _))
      have hm : Kn (ρ.add s.n ⟨g, 0, 1⟩) (s.new (.cells (2 * 3 + 1) [.any 1])) base w1 := hkn.more hblk (two_half1 _) (by omega) (fun b r hr => by have := hold b r hr; omega) (.cons _ _ _ _ (hn1 ▸ VR.any 1 r1 hr1') .nil)
      refine (call_at plainB_ mixedB_ TSound.none 100000 300 hs hm _ (.cons _ _ _ _ (.ptr 0 0 _ (hle _ _ hr0)) (.cons _ _ _ _ (.slice s.n 0 1 1 1 ⟨g, 0, 1⟩ ⟨g, 0, none⟩ 1 (Env.add_self _ _) (Nat.le_refl _) (Nat.le_refl _) (.inr ⟨rfl, Nat.le_refl _⟩)) .nil))).mono ?_
      rintro e w' ⟨ρ', v', rfl, hv, hle', hkn', hb', hkp, hwh⟩
      have hr3 : ∀ b r, (ρ.add s.n ⟨g, 0, 1⟩) b = some r → ¬ S r.blk := fun b r hr hSr => by
        by_cases hbn : b = s.n
        · subst hbn
          rw [Env.add_self] at hr
          cases hr
          have h9 : g < w.heap.size := hS _ hSr
          omega
        · rw [Env.add_ne _ hbn] at hr
          exact hr2 b r hr hSr
      cases hv with
      | tuple _ cs hcs =>
        have : cs = #[] := by
          cases cs with
          | mk l => cases hcs; rfl
        subst this
        refine ⟨rfl, ⟨ρ', hkn', hle' _ _ (hle _ _ hr0), fun m hm => ⟨r1, hle' _ _ (hle _ _ hr1'), ?_⟩, fun b r hr hSr => ?_⟩, hb', fun B hB => hkp B (by have := hS B hB; omega) (fun b r hr e => hr3 b r hr (by rw [e]; exact hB))⟩
        rotate_left
        · rcases hwh b r hr with ⟨b2, r2, h3, h4⟩ | h1
          · exact hr3 b2 r2 h3 (by rw [h4]; exact hSr)
          · have := hS _ hSr
            omega
        rw [hn1]
        injection hm
    rcases hk with rfl | rfl
    · exact run b0 c1 (of_isUnit c1_run) hkn
    · exact run c1 c2 (of_isUnit c2_run) hkn
theorem BkI.apart (h : BkI gb base S ns 2 w) : Calls Tryz.prog 15 #[.pointer (some ⟨gb, 0, none⟩)] w fun e w' => e = .returned (.bool true) ∧ Below base w w' := by
  obtain ⟨ρ, hkn, hr0, hr1, -⟩ := h
  have run : ∀ s : St, ansTrue (ca 15 [.ptr 0 0] s) = true → Kn ρ s base w → Calls Tryz.prog 15 #[.pointer (some ⟨gb, 0, none⟩)] w fun e w' => e = .returned (.bool true) ∧ Below base w w' := fun s hs hkn => by
    obtain ⟨s', hs'⟩ := of_ansTrue hs
    refine (call_at plainB_ mixedB_ TSound.none 100000 300 hs' hkn _ (.cons _ _ _ _ (.ptr 0 0 _ hr0) .nil)).mono ?_
    rintro e w' ⟨ρ', v', rfl, hv, hle, hkn', hb', -, -⟩
    cases hv
    exact ⟨rfl, hb'⟩
  cases ns with
  | nil => exact run b2 b3_run hkn
  | cons n l => exact run c2 c3_run hkn
end
end Go.Proofs.YtmabpnmnppfgaaaGreatDoor
