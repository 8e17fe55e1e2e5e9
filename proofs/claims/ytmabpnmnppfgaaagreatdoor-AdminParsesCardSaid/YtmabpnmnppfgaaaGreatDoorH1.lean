/- Part H1 of the proof: the statement that is proved stands in the text that ends with its name. No conditions beyond the card's. -/
import Derived.Test.YtmabpnmnppfgaaaGreatDoorA3
import Derived.RegionTactic
import Derived.ChangeAlike
namespace Go.Proofs.YtmabpnmnppfgaaaGreatDoor
set_option linter.unusedVariables false
open Go Go.RowKit Go.BigFrame
set_option maxRecDepth 100000 in
set_option maxHeartbeats 4000000 in
theorem refSeg_any (s : ByteArray) (w : World) :
    Calls Tryz.prog 270 #[.string s] w fun e w' => e = .returned (.bool (Ad.isSeg s.data.toList)) ∧ w' = w := by
  by_cases h3 : s.size = 3
  · have hl : s.data.toList.length = 3 := by simpa using h3
    have HN := Lib.hid (show Ad.isSeg s.data.toList = (Ad.upperB (s.data.toList.getD 0 0) && s.data.toList.all Ad.segB) from by unfold Ad.isSeg; rw [hl]; simp)
    have HBad := Lib.hid (show ∀ (i : Nat) (hi : i < s.size), (i = 0 ∧ Ad.upperB s[i] = false) ∨ Ad.segB s[i] = false → Ad.isSeg s.data.toList = false from fun i hi h => by
      rw [HN.out]
      have hg : s.data.toList[i]? = some s[i] := by rw [List.getElem?_eq_getElem (by simpa using hi)]; rfl
      rcases h with ⟨rfl, h⟩ | h
      · rw [List.getD_eq_getElem?_getD, hg]
        simp [h]
      · have : s.data.toList.all Ad.segB = false := by
          rw [List.all_eq_false]
          exact ⟨_, List.mem_of_getElem? hg, by simp [h]⟩
        rw [this, Bool.and_false])
    have HOk := Lib.hid (show (∀ (i : Nat) (hi : i < s.size), (i = 0 → Ad.upperB s[i] = true) ∧ Ad.segB s[i] = true) → Ad.isSeg s.data.toList = true from fun h => by
      rw [HN.out]
      have hg : ∀ (i : Nat) (hi : i < s.size), s.data.toList[i]? = some s[i] := fun i hi => by rw [List.getElem?_eq_getElem (by simpa using hi)]; rfl
      have h0 : 0 < s.size := by omega
      rw [List.getD_eq_getElem?_getD, hg 0 h0]
      simp only [Option.getD_some]
      rw [(h 0 h0).1 rfl, Bool.true_and, List.all_eq_true]
      intro c hc
      obtain ⟨i, hi⟩ := List.getElem?_of_mem hc
      have hi2 := (List.getElem?_eq_some_iff.1 hi).1
      have hi3 : i < s.size := by simpa using hi2
      rw [hg i hi3] at hi
      cases hi
      exact (h i hi3).2)
    have t1 : ((s.size : Int) != 3) = false := by rw [h3]; rfl
    clear hl HN
    generalize Ad.isSeg s.data.toList = res at *
    go_enter Tryz.func270, Tryz.ntmps270
    go_wp2_with fail
    go_loopw [3] (fun x wr => ∃ i : Nat, x = .int .i64 i ∧ i ≤ 3 ∧ wr = w ∧ RowKit.Hid (∀ (j : Nat) (hj : j < s.size), j < i → (j = 0 → Ad.upperB s[j] = true) ∧ Ad.segB s[j] = true)) (fun x _ => 3 - (intOf x).toNat)
    case atStart => exact ⟨0, rfl, by omega, rfl, Lib.hid (fun j _ hj => absurd hj (by omega))⟩
    case round =>
      obtain ⟨i, rfl, hi, rfl, HALL⟩ := hrel
      by_cases hlt : i < 3
      · have hlt2 : i < s.size := by omega
        have hi1 : ∀ W : World, (Instr.index 9 (.string s) (.int .i64 (i : Int))).run Tryz.prog W = .ok (.int .u8 (s[i].toNat : Int)) W := fun W => idx_atu s i hlt2 rfl W
        have HS := Lib.hid (HBad.out i hlt2)
        have HA := Lib.hid (show (i = 0 → Ad.upperB s[i] = true) ∧ Ad.segB s[i] = true → ∀ (j : Nat) (hj : j < s.size), j < i + 1 → (j = 0 → Ad.upperB s[j] = true) ∧ Ad.segB s[j] = true from fun h j hj hji => by
          rcases Nat.lt_or_ge j i with h2 | h2
          · exact HALL.out j hj h2
          · obtain rfl : j = i := by omega
            exact h)
        have hu : Ad.upperB s[i] = decide (65 ≤ s[i].toNat ∧ s[i].toNat ≤ 90) := rfl
        have hg : Ad.segB s[i] = (decide (65 ≤ s[i].toNat ∧ s[i].toNat ≤ 90) || decide (48 ≤ s[i].toNat ∧ s[i].toNat ≤ 57)) := rfl
        rw [hu, hg] at HS HA
        clear HALL hu hg
        generalize s[i].toNat = c at *
        rcases Nat.eq_zero_or_pos i with rfl | hpos
        · have hi1 : ∀ W : World, (Instr.index 9 (.string s) (.int .i64 0)).run Tryz.prog W = .ok (.int .u8 (c : Int)) W := hi1
          rcases (by omega : c < 48 ∨ (48 ≤ c ∧ c ≤ 57) ∨ (57 < c ∧ c < 65) ∨ (65 ≤ c ∧ c ≤ 90) ∨ 90 < c) with h | ⟨h, h'⟩ | ⟨h, h'⟩ | ⟨h, h'⟩ | h
          · have HR := Lib.hid (HS.out (.inr (by simp; omega)))
            have b1 : decide ((65 : Int) ≤ (c : Int)) = false := decide_eq_false (by omega)
            have b2 : decide ((48 : Int) ≤ (c : Int)) = false := decide_eq_false (by omega)
            have b3 : decide ((c : Int) ≤ 57) = true := decide_eq_true (by omega)
            have b4 : decide ((c : Int) ≤ 90) = true := decide_eq_true (by omega)
            clear HS HA
            go_wp2_with fail
            go_ret
            exact ⟨by rw [HR.out]; rfl, rfl⟩
          · have HR := Lib.hid (HS.out (.inl ⟨rfl, by simp; omega⟩))
            have b1 : decide ((65 : Int) ≤ (c : Int)) = false := decide_eq_false (by omega)
            have b2 : decide ((48 : Int) ≤ (c : Int)) = true := decide_eq_true (by omega)
            have b3 : decide ((c : Int) ≤ 57) = true := decide_eq_true (by omega)
            have b4 : decide ((c : Int) ≤ 90) = true := decide_eq_true (by omega)
            clear HS HA
            go_wp2_with fail
            go_ret
            exact ⟨by rw [HR.out]; rfl, rfl⟩
          · have HR := Lib.hid (HS.out (.inr (by simp; omega)))
            have b1 : decide ((65 : Int) ≤ (c : Int)) = false := decide_eq_false (by omega)
            have b2 : decide ((48 : Int) ≤ (c : Int)) = true := decide_eq_true (by omega)
            have b3 : decide ((c : Int) ≤ 57) = false := decide_eq_false (by omega)
            have b4 : decide ((c : Int) ≤ 90) = true := decide_eq_true (by omega)
            clear HS HA
            go_wp2_with fail
            go_ret
            exact ⟨by rw [HR.out]; rfl, rfl⟩
          · have HR := Lib.hid (HA.out ⟨fun _ => by simp; omega, by simp; omega⟩)
            have b1 : decide ((65 : Int) ≤ (c : Int)) = true := decide_eq_true (by omega)
            have b2 : decide ((48 : Int) ≤ (c : Int)) = true := decide_eq_true (by omega)
            have b3 : decide ((c : Int) ≤ 57) = false := decide_eq_false (by omega)
            have b4 : decide ((c : Int) ≤ 90) = true := decide_eq_true (by omega)
            clear HS HA
            go_wp2_with fail
            exact ⟨⟨0 + 1, by go_num, by omega, by trivial, HR⟩, by simp [intOf] <;> omega⟩
          · have HR := Lib.hid (HS.out (.inr (by simp; omega)))
            have b1 : decide ((65 : Int) ≤ (c : Int)) = true := decide_eq_true (by omega)
            have b2 : decide ((48 : Int) ≤ (c : Int)) = true := decide_eq_true (by omega)
            have b3 : decide ((c : Int) ≤ 57) = false := decide_eq_false (by omega)
            have b4 : decide ((c : Int) ≤ 90) = false := decide_eq_false (by omega)
            clear HS HA
            go_wp2_with fail
            go_ret
            exact ⟨by rw [HR.out]; rfl, rfl⟩
        · have hi2 : ((i : Int) == 0) = false := by rw [beq_eq_false_iff_ne]; omega
          rcases (by omega : c < 48 ∨ (48 ≤ c ∧ c ≤ 57) ∨ (57 < c ∧ c < 65) ∨ (65 ≤ c ∧ c ≤ 90) ∨ 90 < c) with h | ⟨h, h'⟩ | ⟨h, h'⟩ | ⟨h, h'⟩ | h
          · have HR := Lib.hid (HS.out (.inr (by simp; omega)))
            have b1 : decide ((65 : Int) ≤ (c : Int)) = false := decide_eq_false (by omega)
            have b2 : decide ((48 : Int) ≤ (c : Int)) = false := decide_eq_false (by omega)
            have b3 : decide ((c : Int) ≤ 57) = true := decide_eq_true (by omega)
            have b4 : decide ((c : Int) ≤ 90) = true := decide_eq_true (by omega)
            clear HS HA
            go_wp2_with fail
            go_ret
            exact ⟨by rw [HR.out]; rfl, rfl⟩
          · have HR := Lib.hid (HA.out ⟨fun h0 => absurd h0 (by omega), by simp; omega⟩)
            have b1 : decide ((65 : Int) ≤ (c : Int)) = false := decide_eq_false (by omega)
            have b2 : decide ((48 : Int) ≤ (c : Int)) = true := decide_eq_true (by omega)
            have b3 : decide ((c : Int) ≤ 57) = true := decide_eq_true (by omega)
            have b4 : decide ((c : Int) ≤ 90) = true := decide_eq_true (by omega)
            clear HS HA
            go_wp2_with fail
            exact ⟨⟨i + 1, by go_num, by omega, by trivial, HR⟩, by simp [intOf] <;> omega⟩
          · have HR := Lib.hid (HS.out (.inr (by simp; omega)))
            have b1 : decide ((65 : Int) ≤ (c : Int)) = false := decide_eq_false (by omega)
            have b2 : decide ((48 : Int) ≤ (c : Int)) = true := decide_eq_true (by omega)
            have b3 : decide ((c : Int) ≤ 57) = false := decide_eq_false (by omega)
            have b4 : decide ((c : Int) ≤ 90) = true := decide_eq_true (by omega)
            clear HS HA
            go_wp2_with fail
            go_ret
            exact ⟨by rw [HR.out]; rfl, rfl⟩
          · have HR := Lib.hid (HA.out ⟨fun _ => by simp; omega, by simp; omega⟩)
            have b1 : decide ((65 : Int) ≤ (c : Int)) = true := decide_eq_true (by omega)
            have b2 : decide ((48 : Int) ≤ (c : Int)) = true := decide_eq_true (by omega)
            have b3 : decide ((c : Int) ≤ 57) = false := decide_eq_false (by omega)
            have b4 : decide ((c : Int) ≤ 90) = true := decide_eq_true (by omega)
            clear HS HA
            go_wp2_with fail
            exact ⟨⟨i + 1, by go_num, by omega, by trivial, HR⟩, by simp [intOf] <;> omega⟩
          · have HR := Lib.hid (HS.out (.inr (by simp; omega)))
            have b1 : decide ((65 : Int) ≤ (c : Int)) = true := decide_eq_true (by omega)
            have b2 : decide ((48 : Int) ≤ (c : Int)) = true := decide_eq_true (by omega)
            have b3 : decide ((c : Int) ≤ 57) = false := decide_eq_false (by omega)
            have b4 : decide ((c : Int) ≤ 90) = false := decide_eq_false (by omega)
            clear HS HA
            go_wp2_with fail
            go_ret
            exact ⟨by rw [HR.out]; rfl, rfl⟩
      · obtain rfl : i = 3 := by omega
        have HR := Lib.hid (HOk.out fun j hj => HALL.out j hj (by omega))
        go_wp2_with fail
        go_ret
        exact ⟨by rw [HR.out]; rfl, rfl⟩
  · have HN := Lib.hid (show Ad.isSeg s.data.toList = false from by unfold Ad.isSeg; rw [decide_eq_false (by simpa using h3)]; rfl)
    have t1 : ((s.size : Int) != 3) = true := by rw [bne_iff_ne]; omega
    go_enter Tryz.func270, Tryz.ntmps270
    go_wp2_with fail
    go_ret
    exact ⟨by rw [HN.out]; rfl, rfl⟩
end Go.Proofs.YtmabpnmnppfgaaaGreatDoor
