/- BitsNumbers and BitsBytes: the walks: package bits and its reference answer the same. -/
import Derived.Test.YtefebcibcmjbaaaBitsAlive
import Derived.Test.YtefebcibcmjbaaaBitsOrder
import Derived.Test.YtefebcibcmjbaaaBitsNumber
import Derived.Test.YtefebcibcmjbaaaBitsUnhex
import Derived.Test.YtefebcibcmjbaaaBitsRefCrc
import Derived.Test.YtefebcibcmjbaaaBitsRefPut
import Derived.Test.YtefebcibcmjbaaaBitsRefCmp
import Derived.Test.YtefebcibcmjbaaaBitsRefDigits
namespace Go.Proofs.Ytefebcibcmjbaaa
set_option linter.unusedVariables false
open Go.RowKit Go.BigFrame
theorem bt {w a b : World} (h : Below w.heap.size w a) (k : Below a.heap.size a b) : Below w.heap.size w b := h.trans (k.mono h.size)
set_option maxRecDepth 100000 in
set_option maxHeartbeats 1000000 in
theorem bitsNumbers_any (v n : Int) (b s : ByteArray) (w : World) (hv : -9223372036854775808 ≤ v) (hv2 : v ≤ 9223372036854775807) (hn : -9223372036854775808 ≤ n) (hn2 : n ≤ 9223372036854775807) (hb : b.size ≤ maxLen) (hs : s.size ≤ maxLen) :
    Calls Try.prog 7 #[.int .i64 v, .int .i64 n, .string b, .string s] w fun e w' => e = .returned (.bool true) ∧ Below w.heap.size w w' := by
  go_enter Try.func7, Try.ntmps7
  go_wp2_with (first
      | (go_at_call 13; refine (put_any v n _ hv hv2 hn hn2).mono ?_; rintro e w1 ⟨rfl, hb1⟩)
      | (go_at_call 15; refine (refPut_any v n _ hv hv2 hn hn2).mono ?_; rintro e w2 ⟨rfl, hb2⟩)
      | (go_at_call 16; refine (get_any b _ hb).mono ?_; rintro e w' ⟨rfl, rfl⟩)
      | (go_at_call 17; refine (refGet_any b _ hb).mono ?_; rintro e w' ⟨rfl, rfl⟩)
      | (go_at_call 18; refine (number_any s _ hs).mono ?_; rintro e w' ⟨rfl, rfl⟩)
      | (go_at_call 19; refine (refNumber_any s _ hs).mono ?_; rintro e w' ⟨rfl, rfl⟩)
      | (go_at_call 10; refine (alive1 _).mono ?_; rintro e wA ⟨rfl, hbA⟩)
      | (go_at_call 20; refine (digits_any v _ hv hv2).mono ?_; rintro e w3 ⟨rfl, hb3⟩)
      | (go_at_call 21; refine (refDigits_any v _ hv hv2).mono ?_; rintro e w4 ⟨rfl, hb4⟩))
  go_ret
  exact ⟨rfl, bt (bt (bt (bt hb1 hb2) hbA) hb3) hb4⟩
set_option maxRecDepth 100000 in
set_option maxHeartbeats 1000000 in
theorem bitsBytes_any (a b : ByteArray) (x y : Int) (w : World) (ha : a.size ≤ 140737488351232) (hb : b.size ≤ 140737488351232) (hx : -9223372036854775808 ≤ x) (hx2 : x ≤ 9223372036854775807) (hy : -9223372036854775808 ≤ y) (hy2 : y ≤ 9223372036854775807) :
    Calls Try.prog 8 #[.string a, .string b, .int .i64 x, .int .i64 y] w fun e w' => e = .returned (.bool true) ∧ Below w.heap.size w w' := by
  have ha9 : a.size ≤ 281474976710656 := by omega
  have hamax : a.size ≤ maxLen := by unfold maxLen; omega
  have hbmax : b.size ≤ maxLen := by unfold maxLen; omega
  by_cases hlong : 20000 < a.size + b.size
  · go_enter Try.func8, Try.ntmps8
    go_wp2_with (go_at_call 10; refine (alive1 _).mono ?_; rintro e w1 ⟨rfl, hb1⟩)
    go_ret
    exact ⟨rfl, hb1⟩
  · go_enter Try.func8, Try.ntmps8
    go_wp2_with (first
      | (go_at_call 22; refine (unhex_any a _ ha9).mono ?_; rintro e w1 ⟨rfl, hb1⟩)
      | (go_at_call 23; refine (refUnhex_any a _ ha9).mono ?_; rintro e w2 ⟨rfl, hb2⟩)
      | (go_at_call 10; refine (alive1 _).mono ?_; rintro e wA ⟨rfl, hbA⟩)
      | (go_at_call 11; refine (crc_any a _ hamax).mono ?_; rintro e w' ⟨rfl, rfl⟩)
      | (go_at_call 24; refine (refCrc_any a _ hamax).mono ?_; rintro e w' ⟨rfl, rfl⟩)
      | (go_at_call 25; refine (hex_any b _ hb).mono ?_; rintro e w3 ⟨rfl, hb3⟩)
      | (go_at_call 26; refine (refHex_any b _ hb).mono ?_; rintro e w4 ⟨rfl, hb4⟩)
      | (go_at_call 14; refine (compare_any a b _).mono ?_; rintro e w' ⟨rfl, rfl⟩)
      | (go_at_call 27; refine (refCompare_any a b _ hamax hbmax).mono ?_; rintro e w5 ⟨rfl, hb5⟩)
      | (go_at_call 12; refine (add_any x y _ hx hx2 hy hy2).mono ?_; rintro e w' ⟨rfl, rfl⟩)
      | (go_at_call 28; refine (refAdd_any x y _ hx hx2 hy hy2).mono ?_; rintro e w' ⟨rfl, rfl⟩))
    go_ret
    exact ⟨rfl, bt (bt (bt (bt (bt hb1 hb2) hbA) hb3) hb4) hb5⟩
end Go.Proofs.Ytefebcibcmjbaaa
