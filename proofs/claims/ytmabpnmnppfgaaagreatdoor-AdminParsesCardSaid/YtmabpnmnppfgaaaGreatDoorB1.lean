/- Part B1 of the proof: the statement that is proved stands in the text that ends with its name. No conditions beyond the card's. -/
import Derived.Test.YtmabpnmnppfgaaaGreatDoorP5
import Derived.Test.YtmabpnmnppfgaaaGreatDoorA1
namespace Go.Proofs.YtmabpnmnppfgaaaGreatDoor
set_option linter.unusedVariables false
open Go Go.RowKit Go.BigFrame
theorem ext_end (t : ByteArray) (k : Nat) : (t.extract k t.size).data.toList = t.data.toList.drop k := by
  simp [ByteArray.data_extract]
  rw [List.take_of_length_le (by simp)]
theorem ext_mid (t : ByteArray) (k n : Nat) : (t.extract k (k + n)).data.toList = (t.data.toList.drop k).take n := by
  simp [ByteArray.data_extract]
theorem ext_to (t : ByteArray) (n : Nat) : (t.extract 0 n).data.toList = t.data.toList.take n := by
  simp [ByteArray.data_extract]
namespace Ad
def signN (l : Bs) : Nat := match l with
  | [] => 0
  | c :: r => if c.toNat = 61 ∨ c.toNat = 60 ∨ c.toNat = 62 then (if Lib.hasPrefix r [61] = true then 2 else 1)
    else if c.toNat = 33 then (if Lib.hasPrefix r [61] = true then 2 else 0)
    else if c.toNat = 40 ∨ c.toNat = 41 ∨ c.toNat = 123 ∨ c.toNat = 125 ∨ c.toNat = 44 ∨ c.toNat = 59 ∨ c.toNat = 43 then 1 else 0
theorem prefix_len {r : Bs} (h : Lib.hasPrefix r [61] = true) : 1 ≤ r.length := by
  cases r with
  | nil => simp [Lib.hasPrefix] at h
  | cons a r => simp
theorem signN_len (l : Bs) : signN l ≤ l.length := by
  unfold signN
  cases l with
  | nil => simp
  | cons c r =>
    simp only [List.length_cons]
    split
    · split
      · rename_i h; have := prefix_len h; omega
      · omega
    · split
      · split
        · rename_i h; have := prefix_len h; omega
        · omega
      · split <;> omega
end Ad
set_option maxRecDepth 100000 in
set_option maxHeartbeats 1600000 in
theorem sign_any (s : ByteArray) (w : World) (hs : s.size ≤ 1000000) (h0 : 0 < s.size) :
    Calls Tryz.prog 218 #[.string s] w fun e w' => e = .returned (.int .i64 (Ad.signN s.data.toList : Nat)) ∧ w' = w := by
  have hb : s[0].toNat < 256 := s[0].toNat_lt
  have hd : s.data.toList = s[0] :: s.data.toList.drop 1 := by
    have := List.drop_eq_getElem_cons (l := s.data.toList) (i := 0) (by simpa using h0)
    rw [List.drop_zero] at this
    exact this
  have he := ext_end s 1
  have HS : Ad.signN s.data.toList = Ad.signN (s[0] :: (s.extract 1 s.size).data.toList) := by rw [he, ← hd]
  rw [HS]
  clear HS hd he
  have hi : ∀ W : World, (Instr.index 9 (.string s) (.int .i64 0)).run Tryz.prog W = .ok (.int .u8 (s[0].toNat : Int)) W := fun W => idx_atu s 0 h0 (i := 0) rfl W
  generalize s[0] = c0 at *
  have HP := Lib.hid (fun W => Tryz.strings_HasPrefix (s.extract 1 s.size) ⟨#[61]⟩ W)
  obtain ⟨q, hq⟩ : ∃ q, Lib.hasPrefix (s.extract 1 s.size).data.toList [61] = q := ⟨_, rfl⟩
  have HQ := Lib.hid (show Lib.hasPrefix (s.extract 1 s.size).data.toList (⟨#[61]⟩ : ByteArray).data.toList = q from hq)
  have HS : Ad.signN (c0 :: (s.extract 1 s.size).data.toList) = if c0.toNat = 61 ∨ c0.toNat = 60 ∨ c0.toNat = 62 then (if q = true then 2 else 1)
    else if c0.toNat = 33 then (if q = true then 2 else 0)
    else if c0.toNat = 40 ∨ c0.toNat = 41 ∨ c0.toNat = 123 ∨ c0.toNat = 125 ∨ c0.toNat = 44 ∨ c0.toNat = 59 ∨ c0.toNat = 43 then 1 else 0 := by rw [← hq]; rfl
  rw [HS]
  clear HS hq
  generalize c0.toNat = c at *
  rcases (by omega : c = 61 ∨ c = 60 ∨ c = 62 ∨ c = 33 ∨ c = 40 ∨ c = 41 ∨ c = 123 ∨ c = 125 ∨ c = 44 ∨ c = 59 ∨ c = 43 ∨ (c ≠ 61 ∧ c ≠ 60 ∧ c ≠ 62 ∧ c ≠ 33 ∧ c ≠ 40 ∧ c ≠ 41 ∧ c ≠ 123 ∧ c ≠ 125 ∧ c ≠ 44 ∧ c ≠ 59 ∧ c ≠ 43)) with h | h | h | h | h | h | h | h | h | h | h | h
  case inr.inr.inr.inr.inr.inr.inr.inr.inr.inr.inr =>
    rw [if_neg (by omega), if_neg (by omega), if_neg (by omega)]
    obtain ⟨h1, h2, h3, h4, h5, h6, h7, h8, h9, h10, h11⟩ := h
    go_enter Tryz.func218, Tryz.ntmps218
    go_wp2_with fail
    go_ret
    exact ⟨rfl, rfl⟩
  all_goals
    subst h
    cases q <;>
    · go_enter Tryz.func218, Tryz.ntmps218
      go_wp2_with (go_at_call 275; refine (HP.out _).mono ?_; rintro e w ⟨rfl, rfl⟩; rw [HQ.out])
      go_ret
      exact ⟨rfl, rfl⟩
end Go.Proofs.YtmabpnmnppfgaaaGreatDoor
