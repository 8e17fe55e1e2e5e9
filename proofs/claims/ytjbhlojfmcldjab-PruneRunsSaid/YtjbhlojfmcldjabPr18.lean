/- What right tells of a channel. -/
import Derived.Test.YtjbhlojfmcldjabPr15
import Derived.BigQuiet
namespace Go.Proofs.Ytjbhlojfmcldjab
set_option linter.unusedVariables false
open Go.RowKit Go.BigFrame
namespace P
/-- The first k destinations have names of their own, and neither retries nor backoffs below zero. -/
def RightTo (ds : List Dest) (k : Nat) : Prop := ∀ i d, i < k → ds[i]? = some d → 0 ≤ d.retry ∧ 0 ≤ d.backoff ∧ ∀ j e, j < i → ds[j]? = some e → (e.name.data.toList == d.name.data.toList) = false
structure Right (ds : List Dest) : Prop where
  to_ : RightTo ds ds.length
  pos : 0 < ds.length
  few : ds.length ≤ 8
end P
/-- The call hands back a Bool; where it is true, R holds. -/
def TellsB (R : Prop) (x : Ending) : Prop := ∃ b : Bool, x = .returned (.bool b) ∧ (b = true → R)
set_option maxRecDepth 100000 in
set_option maxHeartbeats 4000000 in
theorem right_any (cn cd cpre cfil ctr : ByteArray) (cf : Bool) (cpt crt : Int) (D : Option Addr) (n dc : Nat) (ds : List P.Dest) (B : Nat) (w : World)
    (hd : DestsAt w B D n ds) (hB : B ≤ w.heap.size) (hn : n ≤ maxLen) :
    Calls Try.prog 6 #[.agg #[.string cn, .bool cf, .int .i64 cpt, .string cd, .string cpre, .string cfil, .string ctr, .slice D n dc, .int .i64 crt]] w fun e w' => TellsB (P.Right ds) e ∧ Below w.heap.size w w' := by
  unfold maxLen at hn
  have hbel := (Below.refl w.heap.size w).alloc (Nat.le_refl _) (.cells #[.string cn, .bool cf, .int .i64 cpt, .string cd, .string cpre, .string cfil, .string ctr, .slice D n dc, .int .i64 crt] 24)
  have k0 := Blk.new w 24 #[.string cn, .bool cf, .int .i64 cpt, .string cd, .string cpre, .string cfil, .string ctr, .slice D n dc, .int .i64 crt]
  have HD := Lib.hid hd
  have K0 := Lib.hid k0
  have BB := Lib.hid hbel
  clear hd k0 hbel
  go_enter Try.func6, Try.ntmps6
  go_wp2_with fail
  go_loopw [3] (fun x wr => ∃ k : Nat, k ≤ n ∧ x = .int .i64 k ∧ P.RightTo ds k ∧ Below (w.heap.size + 1) (w.alloc (.cells #[.string cn, .bool cf, .int .i64 cpt, .string cd, .string cpre, .string cfil, .string ctr, .slice D n dc, .int .i64 crt] 24)) wr) (fun x _ => n - (intOf x).toNat)
  case atStart => exact ⟨0, by omega, rfl, fun i d hi => by omega, Below.refl _ _⟩
  case round =>
    obtain ⟨k, hk, rfl, hrt, hbel⟩ := hrel
    have c0 := fun i => (K0.out.below hbel (by omega)).cell i
    have hbw := BB.out.trans (hbel.mono (by omega))
    have HW := Lib.hid hbw
    have HR := Lib.hid hrt
    have HB := Lib.hid hbel
    clear hrt hbel hbw
    by_cases hlt : k < n
    · have t1 : decide ((k : Int) < (n : Int)) = true := by simp; omega
      obtain ⟨ad, d, rfl, hdb, hdk, hdc⟩ := (HD.out.below (HW.out.mono hB)).in_ hlt
      have HDK := Lib.hid hdk
      have KR := Lib.hid (K0.out.below HB.out (by omega))
      have HDC := Lib.hid hdc
      have DR := Lib.hid ((HD.out.below (HW.out.mono hB)).more (Nat.le_trans hB HW.out.size))
      have hsz := HB.out.size
      have HLT := Lib.hid (show w.heap.size < wr.heap.size ∧ w.heap.size + 1 ≤ wr.heap.size from by
        have : (w.alloc (.cells #[.string cn, .bool cf, .int .i64 cpt, .string cd, .string cpre, .string cfil, .string ctr, .slice (some ad) n dc, .int .i64 crt] 24)).heap.size = w.heap.size + 1 := by simp
        omega)
      have BD := Lib.hid (show (ad.add (k * 9)).block < wr.heap.size from by have := HLT.out.1; omega)
      clear hdk hsz hdc hdb
      go_wp2_with fail
      clear c0
      go_loopw [4] (fun x wq => ∃ j : Nat, j ≤ k ∧ x = .int .i64 j ∧ (∀ j' e, j' < j → ds[j']? = some e → (e.name.data.toList == d.name.data.toList) = false) ∧ Below wr.heap.size wr wq) (fun x _ => k - (intOf x).toNat)
      case atStart => exact ⟨0, by omega, rfl, fun i e hi => by omega, Below.refl _ _⟩
      case round =>
        obtain ⟨j, hj, rfl, hno, hb2⟩ := hrel
        have NO := Lib.hid hno
        have H2 := Lib.hid hb2
        have c1 := fun i => (KR.out.below hb2 HLT.out.1).cell i
        obtain ⟨d0, d1, d2, d3, d4, d5, d6, d7, d8⟩ := HDC.out.keep hb2 BD.out
        clear hno hb2
        by_cases hjk : j < k
        · have t2 : decide ((j : Int) < (k : Int)) = true := by simp; omega
          obtain ⟨ad', e, ee, heb, hek, e0, e1, e2, e3, e4, e5, e6, e7, e8⟩ := (DR.out.below H2.out).in_ (k := j) (by omega)
          cases ee
          have HEK := Lib.hid hek
          clear hek
          cases t3' : (e.name.data.toList == d.name.data.toList)
          all_goals have t3 := (show (e.name.toList == d.name.toList) = (e.name.data.toList == d.name.data.toList) from by rw [ByteArray.toList_eq, ByteArray.toList_eq]).trans t3'
          · have NO2 := Lib.hid (show ∀ j' e, j' < j + 1 → ds[j']? = some e → (e.name.data.toList == d.name.data.toList) = false from fun j' e' hj' he' => by
              rcases Nat.lt_or_ge j' j with h1 | h1
              · exact NO.out j' e' h1 he'
              · have : j' = j := by omega
                subst this
                rw [HEK.out] at he'
                cases he'
                exact t3')
            clear t3'
            go_wp2_with fail
            go_quiet (fail)
            go_wp2
            go_roundw
            case rel => exact ⟨j + 1, by omega, by go_num, NO2.out, below_drewN H2.out _⟩
            case measure => simp [intOf]; omega
          · clear t3'
            go_wp2_with fail
            go_quiet (fail)
            go_wp2
            go_ret
            exact ⟨⟨false, rfl, fun h => by cases h⟩, below_drewN (HW.out.trans (H2.out.mono HW.out.size)) _⟩
        · have t2 : decide ((j : Int) < (k : Int)) = false := by simp; omega
          have ej : j = k := by omega
          have NK := Lib.hid (show ∀ j' e, j' < k → ds[j']? = some e → (e.name.data.toList == d.name.data.toList) = false from ej ▸ NO.out)
          clear ej
          by_cases h5 : d.retry < 0
          · have t3 : decide (d.retry < 0) = true := by simpa using h5
            go_wp2
            go_ret
            exact ⟨⟨false, rfl, fun h => by cases h⟩, HW.out.trans (H2.out.mono HW.out.size)⟩
          · have t3 : decide (d.retry < 0) = false := by simpa using h5
            by_cases h6 : d.backoff < 0
            · have t4 : decide (d.backoff < 0) = true := by simpa using h6
              go_wp2
              go_ret
              exact ⟨⟨false, rfl, fun h => by cases h⟩, HW.out.trans (H2.out.mono HW.out.size)⟩
            · have t4 : decide (d.backoff < 0) = false := by simpa using h6
              have RT := Lib.hid (show P.RightTo ds (k + 1) from fun i d' hi hd' => by
                rcases Nat.lt_or_ge i k with h1 | h1
                · exact HR.out i d' h1 hd'
                · have : i = k := by omega
                  subst this
                  rw [HDK.out] at hd'
                  cases hd'
                  exact ⟨by omega, by omega, NK.out⟩)
              go_wp2
              go_roundw
              case rel => exact ⟨k + 1, by omega, by go_num, RT.out, HB.out.trans (H2.out.mono HLT.out.2)⟩
              case measure => simp [intOf]; omega
    · have t1 : decide ((k : Int) < (n : Int)) = false := by simp; omega
      have e : k = n := by omega
      by_cases h0 : 0 < n
      · have t2 : decide ((0 : Int) < (n : Int)) = true := by simp; omega
        by_cases h8 : n ≤ 8
        · have t3 : decide ((n : Int) ≤ 8) = true := by simp; omega
          have HF := Lib.hid (show P.Right ds from ⟨by rw [HD.out.len, ← e]; exact HR.out, by rw [HD.out.len]; exact h0, by rw [HD.out.len]; exact h8⟩)
          clear e
          go_wp2
          go_ret
          exact ⟨⟨true, rfl, fun _ => HF.out⟩, HW.out⟩
        · have t3 : decide ((n : Int) ≤ 8) = false := by simp; omega
          clear e
          go_wp2
          go_ret
          exact ⟨⟨false, rfl, fun h => by cases h⟩, HW.out⟩
      · have t2 : decide ((0 : Int) < (n : Int)) = false := by simp; omega
        clear e
        go_wp2
        go_ret
        exact ⟨⟨false, rfl, fun h => by cases h⟩, HW.out⟩
end Go.Proofs.Ytjbhlojfmcldjab
