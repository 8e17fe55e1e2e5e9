/- BitsOrder: the walk, for three texts that fit the reach. -/
import Derived.Test.YtefebcibcmjbaaaBitsOrder
namespace Go.Proofs.Ytefebcibcmjbaaa
open Go.RowKit Go.BigFrame
set_option maxRecDepth 100000 in
set_option maxHeartbeats 1000000 in
theorem bitsOrder_any (a b c : ByteArray) (w : World) (ha : a.size ≤ 140737488351232) (hb : b.size ≤ 140737488351232) (hc : c.size ≤ 140737488351232) :
    Calls Try.prog 6 #[.string a, .string b, .string c] w fun e w' => e = .returned (.bool true) ∧ Below w.heap.size w w' := by
  by_cases hlong : 9000 < a.size + b.size + c.size
  · go_enter Try.func6, Try.ntmps6
    go_wp2_with (go_at_call 10; refine (alive1 _).mono ?_; rintro e w1 ⟨rfl, hb1⟩)
    go_ret
    exact ⟨rfl, hb1⟩
  · have xv := P.cmp_vals a.data.toList b.data.toList
    have yv := P.cmp_vals b.data.toList c.data.toList
    have zv := P.cmp_vals a.data.toList c.data.toList
    have t := P.cmp_le_trans a.data.toList b.data.toList c.data.toList
    have z0 := P.cmp_zero a.data.toList b.data.toList
    have cab := fun W => compare_any a b W
    have cbc := fun W => compare_any b c W
    have cac := fun W => compare_any a c W
    have cba := fun W => compare_any b a W
    have ccc := fun W => compare_any (c ++ a) (c ++ b) W
    simp only [P.cmp_swap a.data.toList b.data.toList] at cba
    simp only [show (c ++ a).data.toList = c.data.toList ++ a.data.toList from by simp, show (c ++ b).data.toList = c.data.toList ++ b.data.toList from by simp, P.cmp_prefix] at ccc
    generalize P.cmp a.data.toList b.data.toList = x at *
    generalize P.cmp b.data.toList c.data.toList = y at *
    generalize P.cmp a.data.toList c.data.toList = z at *
    have zx : ((x == 0) == (a.toList == b.toList)) = true := by
      rw [ByteArray.toList_eq, ByteArray.toList_eq]
      rw [beq_iff_eq, Bool.eq_iff_iff, beq_iff_eq, beq_iff_eq]
      exact z0
    have hq : (a.toList == b.toList) = (x == 0) := (beq_iff_eq.1 zx).symm
    clear zx
    have CAB := Lib.hid cab
    have CBC := Lib.hid cbc
    have CAC := Lib.hid cac
    have CBA := Lib.hid cba
    have CCC := Lib.hid ccc
    clear cab cbc cac cba ccc z0
    rcases xv with rfl | rfl | rfl <;> rcases yv with rfl | rfl | rfl <;>
    (try have hz := (t (by omega) (by omega)).1
     try have hz2 := (t (by omega) (by omega)).2 ⟨by omega, by omega⟩
     try have hq' : (a.toList == b.toList) = false := hq.trans rfl
     try have hq' : (a.toList == b.toList) = true := hq.trans rfl
     clear t zv hq
     try have hd : decide (0 < z) = false := decide_eq_false (by omega)
     try have hd2 : decide (0 ≤ z) = false := decide_eq_false (by omega)
     go_enter Try.func6, Try.ntmps6
     go_wp2_with fail
     refine (CAB.out _).mono ?_
     rintro e w' ⟨rfl, rfl⟩
     go_wp2_with fail
     refine (CBC.out _).mono ?_
     rintro e w' ⟨rfl, rfl⟩
     go_wp2_with fail
     refine (CAC.out _).mono ?_
     rintro e w' ⟨rfl, rfl⟩
     go_wp2_with (go_at_call 10; refine (alive1 _).mono ?_; rintro e w1 ⟨rfl, hb1⟩)
     refine (CBA.out _).mono ?_
     rintro e w' ⟨rfl, rfl⟩
     go_wp2_with fail
     refine (CCC.out _).mono ?_
     rintro e w' ⟨rfl, rfl⟩
     go_wp2
     go_ret
     exact ⟨rfl, hb1⟩)
end Go.Proofs.Ytefebcibcmjbaaa
