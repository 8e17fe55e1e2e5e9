/- Part F9 of the proof: the statement that is proved stands in the text that ends with its name. No conditions beyond the card's. -/
import Derived.Test.YtmabpnmnppfgaaaGreatDoorA3
import Derived.RegionTactic
import Derived.ChangeAlike
import Derived.Lib.Join
namespace Go.Proofs.YtmabpnmnppfgaaaGreatDoor
set_option linter.unusedVariables false
open Go Go.RowKit Go.BigFrame
def wordS (xs : List ByteArray) (n : Int) : ByteArray := if n < 0 ∨ (xs.length : Int) ≤ n then ⟨#[]⟩ else xs.getD n.toNat ⟨#[]⟩
set_option maxRecDepth 100000 in
theorem admWord_any (n : Int) (xs : List ByteArray) (g : Nat) (w : World) (hk : Blk w g 9 (xs.map Value.string).toArray) :
    Calls Tryz.prog 32 #[.int .i64 n, .slice (some ⟨g, 0, none⟩) xs.length xs.length] w fun e w' => e = .returned (.string (wordS xs n)) ∧ w' = w := by
  have h3 : n < 0 ∨ (¬ n < 0 ∧ (xs.length : Int) ≤ n) ∨ ∃ k : Nat, n = k ∧ k < xs.length := by
    by_cases h1 : n < 0
    · exact .inl h1
    · by_cases h2 : (xs.length : Int) ≤ n
      · exact .inr (.inl ⟨h1, h2⟩)
      · exact .inr (.inr ⟨n.toNat, by omega, by omega⟩)
  rcases h3 with h | ⟨h1, h2⟩ | ⟨k, rfl, hlt⟩
  · have HX := Lib.hid (show wordS xs n = ⟨#[]⟩ from if_pos (.inl h))
    go_enter Tryz.func32, Tryz.ntmps32
    go_wp2_with fail
    go_ret
    rw [HX.out]
    exact ⟨rfl, rfl⟩
  · have HX := Lib.hid (show wordS xs n = ⟨#[]⟩ from if_pos (.inr h2))
    have h3 : decide ((xs.length : Int) ≤ n) = true := decide_eq_true h2
    go_enter Tryz.func32, Tryz.ntmps32
    go_wp2_with fail
    go_ret
    rw [HX.out]
    exact ⟨rfl, rfl⟩
  · obtain ⟨x, hx⟩ : ∃ x, xs[k]? = some x := ⟨_, List.getElem?_eq_getElem hlt⟩
    have HX := Lib.hid (show wordS xs (k : Int) = x from by
      unfold wordS
      rw [if_neg (by omega), Int.toNat_natCast, List.getD_eq_getElem?_getD, hx]
      rfl)
    have hc : w.cell? ⟨g, k, none⟩ = some (.string x) := by rw [hk.cell]; simp [hx]
    have hc2 : w.cell? ((⟨g, 0, none⟩ : Addr).add k) = some (.string x) := by rw [Addr.add_lit, Nat.zero_add]; exact hc
    have q1 : ¬ ((xs.length : Int) ≤ (k : Int)) := by omega
    clear hk hx
    go_enter Tryz.func32, Tryz.ntmps32
    go_wp2_with fail
    go_ret
    rw [HX.out]
    exact ⟨rfl, rfl⟩
def stateL : List ByteArray := [⟨#[114, 101, 99, 101, 105, 118, 101, 100]⟩, ⟨#[102, 105, 108, 116, 101, 114, 101, 100]⟩, ⟨#[102, 97, 105, 108, 101, 100]⟩, ⟨#[114, 111, 117, 116, 101, 100]⟩]
def statusL : List ByteArray := [⟨#[110, 111, 110, 101]⟩, ⟨#[119, 97, 105, 116, 105, 110, 103]⟩, ⟨#[113, 117, 101, 117, 101, 100]⟩, ⟨#[115, 101, 110, 116]⟩, ⟨#[101, 114, 114, 111, 114]⟩]
set_option maxRecDepth 100000 in
theorem admState_any (n : Int) (w : World) : Calls Tryz.prog 11 #[.int .i64 n] w fun e w' => e = .returned (.string (wordS stateL n)) ∧ Below w.heap.size w w' := by
  have K := Lib.hid (admWord_any n stateL w.heap.size (w.alloc (.cells (stateL.map Value.string).toArray 9)) (Blk.new w _ _))
  have B := Lib.hid ((Below.refl _ w).alloc (Nat.le_refl _) (.cells (stateL.map Value.string).toArray 9))
  go_enter Tryz.func11, Tryz.ntmps11
  go_wp2_with fail
  refine K.out.mono ?_
  rintro e w' ⟨rfl, rfl⟩
  go_wp2_with fail
  go_ret
  exact ⟨rfl, B.out⟩
set_option maxRecDepth 100000 in
theorem admStatus_any (n : Int) (w : World) : Calls Tryz.prog 13 #[.int .i64 n] w fun e w' => e = .returned (.string (wordS statusL n)) ∧ Below w.heap.size w w' := by
  have K := Lib.hid (admWord_any n statusL w.heap.size (w.alloc (.cells (statusL.map Value.string).toArray 9)) (Blk.new w _ _))
  have B := Lib.hid ((Below.refl _ w).alloc (Nat.le_refl _) (.cells (statusL.map Value.string).toArray 9))
  go_enter Tryz.func13, Tryz.ntmps13
  go_wp2_with fail
  refine K.out.mono ?_
  rintro e w' ⟨rfl, rfl⟩
  go_wp2_with fail
  go_ret
  exact ⟨rfl, B.out⟩
set_option maxRecDepth 100000 in
theorem refState_any (n : Int) (w : World) : Calls Tryz.prog 12 #[.int .i64 n] w fun e w' => e = .returned (.string (wordS stateL n)) ∧ Below w.heap.size w w' := by
  rcases (by omega : n < 0 ∨ (¬ n < 0 ∧ 3 < n) ∨ n = 0 ∨ n = 1 ∨ n = 2 ∨ n = 3) with h | ⟨h1, h2⟩ | rfl | rfl | rfl | rfl
  · have HX := Lib.hid (show wordS stateL n = ⟨#[]⟩ from if_pos (.inl h))
    go_enter Tryz.func12, Tryz.ntmps12
    go_wp2_with fail
    go_ret
    rw [HX.out]
    exact ⟨rfl, Below.refl _ _⟩
  · have HX := Lib.hid (show wordS stateL n = ⟨#[]⟩ from if_pos (.inr (by show (4 : Int) ≤ n; omega)))
    go_enter Tryz.func12, Tryz.ntmps12
    go_wp2_with fail
    go_ret
    rw [HX.out]
    exact ⟨rfl, Below.refl _ _⟩
  · have hi : ∀ W : World, (Instr.index 86 (.agg #[.string ⟨#[114, 101, 99, 101, 105, 118, 101, 100]⟩, .string ⟨#[102, 105, 108, 116, 101, 114, 101, 100]⟩, .string ⟨#[102, 97, 105, 108, 101, 100]⟩, .string ⟨#[114, 111, 117, 116, 101, 100]⟩]) (.int .i64 0)).run Tryz.prog W = .ok (.string ⟨#[114, 101, 99, 101, 105, 118, 101, 100]⟩) W := fun W => by kernel_rfl
    go_enter Tryz.func12, Tryz.ntmps12
    go_wp2_with fail
    go_ret
    exact ⟨rfl, Below.refl _ _⟩
  · have hi : ∀ W : World, (Instr.index 86 (.agg #[.string ⟨#[114, 101, 99, 101, 105, 118, 101, 100]⟩, .string ⟨#[102, 105, 108, 116, 101, 114, 101, 100]⟩, .string ⟨#[102, 97, 105, 108, 101, 100]⟩, .string ⟨#[114, 111, 117, 116, 101, 100]⟩]) (.int .i64 1)).run Tryz.prog W = .ok (.string ⟨#[102, 105, 108, 116, 101, 114, 101, 100]⟩) W := fun W => by kernel_rfl
    go_enter Tryz.func12, Tryz.ntmps12
    go_wp2_with fail
    go_ret
    exact ⟨rfl, Below.refl _ _⟩
  · have hi : ∀ W : World, (Instr.index 86 (.agg #[.string ⟨#[114, 101, 99, 101, 105, 118, 101, 100]⟩, .string ⟨#[102, 105, 108, 116, 101, 114, 101, 100]⟩, .string ⟨#[102, 97, 105, 108, 101, 100]⟩, .string ⟨#[114, 111, 117, 116, 101, 100]⟩]) (.int .i64 2)).run Tryz.prog W = .ok (.string ⟨#[102, 97, 105, 108, 101, 100]⟩) W := fun W => by kernel_rfl
    go_enter Tryz.func12, Tryz.ntmps12
    go_wp2_with fail
    go_ret
    exact ⟨rfl, Below.refl _ _⟩
  · have hi : ∀ W : World, (Instr.index 86 (.agg #[.string ⟨#[114, 101, 99, 101, 105, 118, 101, 100]⟩, .string ⟨#[102, 105, 108, 116, 101, 114, 101, 100]⟩, .string ⟨#[102, 97, 105, 108, 101, 100]⟩, .string ⟨#[114, 111, 117, 116, 101, 100]⟩]) (.int .i64 3)).run Tryz.prog W = .ok (.string ⟨#[114, 111, 117, 116, 101, 100]⟩) W := fun W => by kernel_rfl
    go_enter Tryz.func12, Tryz.ntmps12
    go_wp2_with fail
    go_ret
    exact ⟨rfl, Below.refl _ _⟩
set_option maxRecDepth 100000 in
theorem refStatus_any (n : Int) (w : World) : Calls Tryz.prog 14 #[.int .i64 n] w fun e w' => e = .returned (.string (wordS statusL n)) ∧ Below w.heap.size w w' := by
  rcases (by omega : n < 0 ∨ (¬ n < 0 ∧ 4 < n) ∨ n = 0 ∨ n = 1 ∨ n = 2 ∨ n = 3 ∨ n = 4) with h | ⟨h1, h2⟩ | rfl | rfl | rfl | rfl | rfl
  · have HX := Lib.hid (show wordS statusL n = ⟨#[]⟩ from if_pos (.inl h))
    go_enter Tryz.func14, Tryz.ntmps14
    go_wp2_with fail
    go_ret
    rw [HX.out]
    exact ⟨rfl, Below.refl _ _⟩
  · have HX := Lib.hid (show wordS statusL n = ⟨#[]⟩ from if_pos (.inr (by show (5 : Int) ≤ n; omega)))
    go_enter Tryz.func14, Tryz.ntmps14
    go_wp2_with fail
    go_ret
    rw [HX.out]
    exact ⟨rfl, Below.refl _ _⟩
  · have hi : ∀ W : World, (Instr.index 87 (.agg #[.string ⟨#[110, 111, 110, 101]⟩, .string ⟨#[119, 97, 105, 116, 105, 110, 103]⟩, .string ⟨#[113, 117, 101, 117, 101, 100]⟩, .string ⟨#[115, 101, 110, 116]⟩, .string ⟨#[101, 114, 114, 111, 114]⟩]) (.int .i64 0)).run Tryz.prog W = .ok (.string ⟨#[110, 111, 110, 101]⟩) W := fun W => by kernel_rfl
    go_enter Tryz.func14, Tryz.ntmps14
    go_wp2_with fail
    go_ret
    exact ⟨rfl, Below.refl _ _⟩
  · have hi : ∀ W : World, (Instr.index 87 (.agg #[.string ⟨#[110, 111, 110, 101]⟩, .string ⟨#[119, 97, 105, 116, 105, 110, 103]⟩, .string ⟨#[113, 117, 101, 117, 101, 100]⟩, .string ⟨#[115, 101, 110, 116]⟩, .string ⟨#[101, 114, 114, 111, 114]⟩]) (.int .i64 1)).run Tryz.prog W = .ok (.string ⟨#[119, 97, 105, 116, 105, 110, 103]⟩) W := fun W => by kernel_rfl
    go_enter Tryz.func14, Tryz.ntmps14
    go_wp2_with fail
    go_ret
    exact ⟨rfl, Below.refl _ _⟩
  · have hi : ∀ W : World, (Instr.index 87 (.agg #[.string ⟨#[110, 111, 110, 101]⟩, .string ⟨#[119, 97, 105, 116, 105, 110, 103]⟩, .string ⟨#[113, 117, 101, 117, 101, 100]⟩, .string ⟨#[115, 101, 110, 116]⟩, .string ⟨#[101, 114, 114, 111, 114]⟩]) (.int .i64 2)).run Tryz.prog W = .ok (.string ⟨#[113, 117, 101, 117, 101, 100]⟩) W := fun W => by kernel_rfl
    go_enter Tryz.func14, Tryz.ntmps14
    go_wp2_with fail
    go_ret
    exact ⟨rfl, Below.refl _ _⟩
  · have hi : ∀ W : World, (Instr.index 87 (.agg #[.string ⟨#[110, 111, 110, 101]⟩, .string ⟨#[119, 97, 105, 116, 105, 110, 103]⟩, .string ⟨#[113, 117, 101, 117, 101, 100]⟩, .string ⟨#[115, 101, 110, 116]⟩, .string ⟨#[101, 114, 114, 111, 114]⟩]) (.int .i64 3)).run Tryz.prog W = .ok (.string ⟨#[115, 101, 110, 116]⟩) W := fun W => by kernel_rfl
    go_enter Tryz.func14, Tryz.ntmps14
    go_wp2_with fail
    go_ret
    exact ⟨rfl, Below.refl _ _⟩
  · have hi : ∀ W : World, (Instr.index 87 (.agg #[.string ⟨#[110, 111, 110, 101]⟩, .string ⟨#[119, 97, 105, 116, 105, 110, 103]⟩, .string ⟨#[113, 117, 101, 117, 101, 100]⟩, .string ⟨#[115, 101, 110, 116]⟩, .string ⟨#[101, 114, 114, 111, 114]⟩]) (.int .i64 4)).run Tryz.prog W = .ok (.string ⟨#[101, 114, 114, 111, 114]⟩) W := fun W => by kernel_rfl
    go_enter Tryz.func14, Tryz.ntmps14
    go_wp2_with fail
    go_ret
    exact ⟨rfl, Below.refl _ _⟩
end Go.Proofs.YtmabpnmnppfgaaaGreatDoor
