/- The law of the nil and the zero world, reckoned: at every step, on every tape, the call returns true; of what was there nothing turns. -/
import Derived.Test.YtnodnpehjbhphaaGreatDoorRkE28
import Derived.Test.YtnodnpehjbhphaaGreatDoorShelf
namespace Go.Proofs.YtnodnpehjbhphaaGreatDoor.Rk
open Go Go.Proofs
set_option linter.unusedVariables false
noncomputable def told : Told := fun f => if f == 317 then some oIndex else if f == 188 then some oClone else if f == 61 then some (oCheck 56) else if f == 43 then some oJoin else none
theorem plain_ : plainFuncs Tryz.prog = true := by kernel_rfl
theorem told_ok : TSound Tryz.prog told := by
  refine tsound plain_ (fun f g h => ?_)
  unfold told at h
  split at h
  · rename_i hf
    cases h
    obtain rfl := eq_of_beq hf
    exact ⟨by kernel_rfl, told_index Tryz.strings_Index_one⟩
  · split at h
    · rename_i hf
      cases h
      obtain rfl := eq_of_beq hf
      exact ⟨by kernel_rfl, told_clone Tryz.stringslite_Clone⟩
    · split at h
      · rename_i hf
        cases h
        obtain rfl := eq_of_beq hf
        exact ⟨by kernel_rfl, told_check Tryz.Builder_copyCheck_used Tryz.Builder_copyCheck_fresh⟩
      · split at h
        · rename_i hf
          cases h
          obtain rfl := eq_of_beq hf
          exact ⟨by kernel_rfl, told_join Tryz.strings_Join_none Tryz.strings_Join⟩
        · cases h
set_option maxRecDepth 1000000 in
theorem none_run : ansTrue (call Tryz.prog told (dcall Tryz.prog 100000) 100000 200 3 [.agg (List.replicate 4 .top)] ⟨.leaf, 0, []⟩) = true := by kernel_rfl
theorem none_any (cs : Array Value) (hcs : cs.size = 4) (w : World) : Calls Tryz.prog 3 #[.agg cs] w (fun e w' => e = .returned (.bool true) ∧ Go.RowKit.Below w.heap.size w w') := by
  refine closed_args plain_ Tryz.lays156.mixed told_ok 100000 200 none_run #[.agg cs] (.cons _ _ _ _ (.agg _ _ ?_) .nil) w
  have := vrl_tops (ρ := fun _ => none) cs.toList
  rwa [Array.length_toList, hcs] at this
end Go.Proofs.YtnodnpehjbhphaaGreatDoor.Rk
