/- What the reference's Read returns: the same. For texts whose lengths a machine holds. -/
import Derived.Test.YtefebcibcmjbaabEsc5
import Derived.Test.YtefebcibcmjbaabEsc6
import Derived.Test.YtefebcibcmjbaabDelim3
namespace Go.Proofs.Ytefebcibcmjbaab
set_option linter.unusedVariables false
open Go.RowKit Go.BigFrame
namespace P
theorem cut_at {e : UInt8} {l : List UInt8} {j : Nat} (hj : j < l.length) (hno : e ∉ l.take j) (he : l.getD j 0 = e) : cut e l = some (l.take j, l.drop (j + 1)) := by
  have h1 : l = l.take j ++ e :: l.drop (j + 1) := by
    have h2 := List.drop_eq_getElem_cons hj
    have h3 : l[j] = e := by rw [← he, List.getD_eq_getElem?_getD, List.getElem?_eq_getElem hj]; rfl
    rw [h3] at h2
    rw [← h2, List.take_append_drop]
  have := cut_mk (l.take j) (l.drop (j + 1)) hno
  rw [← h1] at this
  exact this
theorem take_no {e : UInt8} {l : List UInt8} {j : Nat} (hj : j < l.length) (hno : e ∉ l.take j) (he : l.getD j 0 ≠ e) : e ∉ l.take (j + 1) := by
  have h3 : l.getD j 0 = l[j] := by rw [List.getD_eq_getElem?_getD, List.getElem?_eq_getElem hj]; rfl
  rw [h3] at he
  intro h
  rw [List.take_succ_eq_append_getElem hj] at h
  rcases List.mem_append.1 h with h | h
  · exact hno h
  · simp at h
    exact he h.symm
theorem drop_getD (t : ByteArray) (a j : Nat) (h : a + j < t.size) : (t.data.toList.drop a).getD j 0 = t[a + j] := by
  rw [List.getD_eq_getElem?_getD, List.getElem?_drop, List.getElem?_eq_getElem (by simpa using h)]
  rfl
end P
set_option maxRecDepth 100000 in
set_option maxHeartbeats 4000000 in
theorem refRead_any (f c r e s : UInt8) (t : ByteArray) (w : World) (hs : t.size ≤ 17592186044416) : Calls Try.prog 23 #[.agg #[.int .u8 (f.toNat : Int), .int .u8 (c.toNat : Int), .int .u8 (r.toNat : Int), .int .u8 (e.toNat : Int), .int .u8 (s.toNat : Int)], .string t] w fun x w' => x = .returned (.string (if P.valid [f, c, r, e, s] = true then ⟨(P.read f c r e s t.data.toList).toArray⟩ else t)) ∧ Below w.heap.size w w' := by
  cases hv : P.valid [f, c, r, e, s]
  · have vc := fun W => refValid_any f c r e s W
    rw [hv] at vc
    have VC := Lib.hid vc
    rw [if_neg (by simp)]
    clear hv vc
    go_enter Try.func23, Try.ntmps23
    go_wp2_with fail
    refine (VC.out _).mono ?_
    rintro x w2 ⟨rfl, hb2⟩
    have B2 := Lib.hid (box_below hb2)
    clear hb2
    go_wp2
    go_ret
    exact ⟨rfl, B2.out⟩
  · have vc := fun W => refValid_any f c r e s W
    have HSo := Lib.hid (P.sound_of hv)
    rw [hv] at vc
    have VC := Lib.hid vc
    rw [if_pos rfl]
    clear hv vc
    go_enter Try.func23, Try.ntmps23
    go_wp2_with fail
    refine (VC.out _).mono ?_
    rintro x w2 ⟨rfl, hb2⟩
    have B2 := Lib.hid (box_below hb2)
    have K2 := Lib.hid ((Blk.new w 23 #[.int .u8 (f.toNat : Int), .int .u8 (c.toNat : Int), .int .u8 (r.toNat : Int), .int .u8 (e.toNat : Int), .int .u8 (s.toNat : Int)]).below hb2 (by simp))
    have Z2 := Lib.hid (show w.heap.size + 1 ≤ w2.heap.size from by have := hb2.size; simp at this; omega)
    clear hb2
    go_wp2_with fail
    go_loopw [5, 6] (fun o x wr => ∃ (k : Nat) (out : List UInt8), k ≤ t.size ∧ x = .int .i64 k ∧ P.read f c r e s t.data.toList = out ++ P.read f c r e s (t.data.toList.drop k) ∧ out.length ≤ k ∧ OwnB wr (w.heap.size + 1) o out ∧ Blk wr w.heap.size 23 #[.int .u8 (f.toNat : Int), .int .u8 (c.toNat : Int), .int .u8 (r.toNat : Int), .int .u8 (e.toNat : Int), .int .u8 (s.toNat : Int)] ∧ w.heap.size + 1 ≤ wr.heap.size ∧ Below w.heap.size w wr) (fun _ x _ => t.size - (intOf x).toNat)
    case atStart => exact ⟨0, [], by omega, rfl, rfl, by simp, OwnB.nil _ _, K2.out, Z2.out, B2.out⟩
    case round =>
      obtain ⟨k, out, hk, rfl, hread, hout, hown, hblk, hsz, hbel⟩ := hrel
      have HR := Lib.hid hread
      clear hread
      by_cases hlt : k < t.size
      · have hi := fun W => idx_atu t k hlt rfl W
        have HD := Lib.hid (P.drop_eq t k hlt)
        have hcl := fun x => fun i => ext_blk6 hblk x i
        by_cases hbe : t[k] = e
        · have tb : ((t[k].toNat : Int) != (e.toNat : Int)) = false := by rw [hbe]; simp
          have HBE := Lib.hid hbe
          have HSt := Lib.hid (fun hop : P.read f c r e s (e :: t.data.toList.drop (k + 1)) = e :: P.read f c r e s (t.data.toList.drop (k + 1)) => show P.read f c r e s t.data.toList = (out ++ [t[k]]) ++ P.read f c r e s (t.data.toList.drop (k + 1)) from by rw [HR.out, HD.out, hbe, hop]; simp)
          clear hbe
          go_wp2_with fail
          refine wp_region_ext (by kernel_rfl) (by kernel_rfl) ?_
          repeat (first | go_big_quiet_step (fail) | quiet_step (fail))
          refine wpQuiet_nil ?_
          intro w3 hb3
          have hown3 := hown.below hb3 (Nat.le_refl _)
          have hblk3 := hblk.below hb3 hblk.lt
          have Z3 : w.heap.size + 1 ≤ w3.heap.size := Nat.le_trans hsz hb3.size
          have B3 := Lib.hid (hbel.trans (hb3.mono hbel.size))
          clear hb3 hcl hown hblk hbel hi tb hsz
          go_wp2_with fail
          go_loopw [7] (fun x wr => ∃ j : Nat, k + 1 + j ≤ t.size ∧ x = .int .i64 (k + 1 + j : Nat) ∧ e ∉ (t.data.toList.drop (k + 1)).take j ∧ OwnB wr (w.heap.size + 1) u5 out ∧ Blk wr w.heap.size 23 #[.int .u8 (f.toNat : Int), .int .u8 (c.toNat : Int), .int .u8 (r.toNat : Int), .int .u8 (e.toNat : Int), .int .u8 (s.toNat : Int)] ∧ w.heap.size + 1 ≤ wr.heap.size ∧ Below w.heap.size w wr) (fun x _ => t.size - (intOf x).toNat)
          case atStart => exact ⟨0, by omega, by go_num, by simp, hown3, hblk3, Z3, B3.out⟩
          case round =>
            obtain ⟨j, hj, rfl, hno, hown4, hblk4, Z4, hbel4⟩ := hrel
            rename_i w4
            have hcl4 := fun x => fun i => ext_blk6 hblk4 x i
            have Hno := Lib.hid hno
            have B4 := Lib.hid hbel4
            clear hno hbel4 hown3 hblk3 Z3
            by_cases hl2 : k + 1 + j < t.size
            · have d1 : decide ((k : Int) + 1 + (j : Int) < (t.size : Int)) = true := decide_eq_true (by omega)
              have hi2 := fun W => idx_atu t (k + 1 + j) hl2 (i := (k : Int) + 1 + (j : Int)) (by omega) W
              by_cases he : t[k + 1 + j] = e
              · have te : ((t[k + 1 + j].toNat : Int) != (e.toNat : Int)) = false := by rw [he]; simp
                have hc := P.cut_at (l := t.data.toList.drop (k + 1)) (e := e) (j := j) (by simp; omega) Hno.out (by rw [P.drop_getD t (k + 1) j hl2]; exact he)
                have HC := Lib.hid hc
                have HU := Lib.hid (show (t.data.toList.drop (k + 1)).drop (j + 1) = t.data.toList.drop (k + 1 + j + 1) from by rw [List.drop_drop, show k + 1 + (j + 1) = k + 1 + j + 1 from by omega])
                have mc := fun W => means_any f c r e s HSo.out (t.extract (k + 1) (k + 1 + j)) W (by simp; omega)
                rw [P.ext_mid] at mc
                have hvlen : ((t.data.toList.drop (k + 1)).take j).length = j := by simp; omega
                have HVL := Lib.hid hvlen
                clear hc he hvlen
                generalize (t.data.toList.drop (k + 1)).take j = wd at *
                go_wp2_with fail
                refine wp_region_ext (by kernel_rfl) (by kernel_rfl) ?_
                repeat (first | go_big_quiet_step (fail) | quiet_step (fail))
                refine wpQuiet_nil ?_
                intro wa hba
                have howna := hown4.below hba (Nat.le_refl _)
                have hblka := hblk4.below hba hblk4.lt
                have Za : w.heap.size + 1 ≤ wa.heap.size := Nat.le_trans Z4 hba.size
                have Ba := Lib.hid (B4.out.trans (hba.mono B4.out.size))
                have hcla := fun x => fun i => ext_blk6 hblka x i
                clear hba hcl4 hown4 hblk4 hi2 te
                have hwr : IntKind.i64.wrap ((k : Int) + 1) = (k : Int) + 1 := by rw [IntKind.wrap_i64]; omega
                cases hm : P.means f c r e s wd with
                | none =>
                  have HS := Lib.hid (HSt.out (P.read_none HC.out hm))
                  rw [hm] at mc
                  have MC := Lib.hid mc
                  clear mc hm
                  generalize P.meansS f c r e s wd = ms at *
                  go_wp2_with fail
                  refine wp_region_ext (by kernel_rfl) (by kernel_rfl) ?_
                  repeat (first | go_big_quiet_step ((go_at_call 32; exact Ext.calls _ (MC.out _))) | quiet_step ((go_at_call 32; exact Ext.calls _ (MC.out _))))
                  refine wpQuiet_nil ?_
                  intro w5 hb5
                  have hown5 := howna.below hb5 (Nat.le_refl _)
                  have hblk5 := hblka.below hb5 hblka.lt
                  have Z5 : w.heap.size + 1 ≤ w5.heap.size := Nat.le_trans Za hb5.size
                  have B5 := Lib.hid (Ba.out.trans (hb5.mono Ba.out.size))
                  clear hb5 hcla howna hblka hwr
                  go_wp2_with (at_builtin; refine wpList_append_bytes rfl (.tmp 67) (.tmp 71) rfl (w.heap.size + 1) u5 out rfl (hown5.alloc _) ⟨w5.heap.size, 0, none⟩ 1 1 [t[k]] rfl rfl (newsU8 w5 5 [t[k]]) (by simp; omega) (by simp; omega) ?_; intro o4 w6 hown6 hb6)
                  have hblk6 := (hblk5.alloc (.cells #[.int .u8 (t[k].toNat : Int)] 5)).below hb6 (by omega)
                  have B6 := Lib.hid (B5.out.trans ((((Below.refl w5.heap.size w5).alloc (Nat.le_refl _) (.cells #[.int .u8 (t[k].toNat : Int)] 5)).mono B5.out.size).trans (hb6.mono (by omega))))
                  have Z6 := Lib.hid (show w.heap.size + 1 ≤ w6.heap.size from by have := hb6.size; simp at this; omega)
                  clear hb6
                  go_wp2
                  go_roundw
                  case rel => exact ⟨k + 1, out ++ [t[k]], by omega, by go_num, HS.out, by simp; omega, hown6, hblk6, Z6.out, B6.out⟩
                  case measure => simp [intOf]; omega
                | some v =>
                  have hvl := P.means_len hm
                  rw [HVL.out] at hvl
                  have HS := Lib.hid (show P.read f c r e s t.data.toList = (out ++ v) ++ P.read f c r e s (t.data.toList.drop (k + 1 + j + 1)) from by rw [HR.out, HD.out, HBE.out, P.read_some HC.out hm, HU.out, List.append_assoc])
                  rw [P.meansS_some hm, hm] at mc
                  have MC := Lib.hid mc
                  clear mc hm
                  go_wp2_with fail
                  refine wp_region_ext (by kernel_rfl) (by kernel_rfl) ?_
                  repeat (first | go_big_quiet_step ((go_at_call 32; exact Ext.calls _ (MC.out _))) | quiet_step ((go_at_call 32; exact Ext.calls _ (MC.out _))))
                  refine wpQuiet_nil ?_
                  intro w5 hb5
                  have hown5 := howna.below hb5 (Nat.le_refl _)
                  have hblk5 := hblka.below hb5 hblka.lt
                  have Z5 : w.heap.size + 1 ≤ w5.heap.size := Nat.le_trans Za hb5.size
                  have B5 := Lib.hid (Ba.out.trans (hb5.mono Ba.out.size))
                  clear hb5 hcla howna hblka hwr
                  go_wp2_with (at_builtin; refine wpList_append_str rfl (.tmp 63) (.tmp 64) rfl (w.heap.size + 1) u5 out rfl hown5 ⟨v.toArray⟩ rfl (by show out.length + v.length ≤ _; omega) Z5 ?_; intro o4 w6 hown6 hb6)
                  have hblk6 := hblk5.below hb6 (by omega)
                  have B6 := Lib.hid (B5.out.trans (hb6.mono (by omega)))
                  have Z6 := Lib.hid (show w.heap.size + 1 ≤ w6.heap.size from Nat.le_trans Z5 hb6.size)
                  clear hb6
                  go_wp2
                  go_roundw
                  case rel => exact ⟨k + 1 + j + 1, out ++ v, by omega, by go_num, HS.out, by simp; omega, hown6, hblk6, Z6.out, B6.out⟩
                  case measure => simp [intOf]; omega
              · have te : ((t[k + 1 + j].toNat : Int) != (e.toNat : Int)) = true := by rw [bne_iff_ne]; intro h; exact he (UInt8.toNat_inj.1 (by omega))
                have HN := Lib.hid (P.take_no (l := t.data.toList.drop (k + 1)) (e := e) (j := j) (by simp; omega) Hno.out (by rw [P.drop_getD t (k + 1) j hl2]; exact he))
                clear he
                go_wp2_with fail
                refine wp_region_ext (by kernel_rfl) (by kernel_rfl) ?_
                repeat (first | go_big_quiet_step (fail) | quiet_step (fail))
                refine wpQuiet_nil ?_
                intro wa hba
                have howna := hown4.below hba (Nat.le_refl _)
                have hblka := hblk4.below hba hblk4.lt
                have Za : w.heap.size + 1 ≤ wa.heap.size := Nat.le_trans Z4 hba.size
                have Ba := Lib.hid (B4.out.trans (hba.mono B4.out.size))
                clear hba hcl4 hown4 hblk4 hi2 te
                go_wp2
                go_roundw
                case rel => exact ⟨j + 1, by omega, by go_num, HN.out, howna, hblka, Za, Ba.out⟩
                case measure => simp [intOf]; omega
            · have hkj : k + 1 + j = t.size := by omega
              have d1 : decide ((k : Int) + 1 + (j : Int) < (t.size : Int)) = false := decide_eq_false (by omega)
              have HS := Lib.hid (HSt.out (P.read_open (P.cut_none _ (by have := Hno.out; rwa [List.take_of_length_le (by simp; omega)] at this))))
              have HKJ := Lib.hid hkj
              clear hkj
              go_wp2_with fail
              refine wp_region_ext (by kernel_rfl) (by kernel_rfl) ?_
              repeat (first | go_big_quiet_step (fail) | quiet_step (fail))
              refine wpQuiet_nil ?_
              intro w5 hb5
              have hown5 := hown4.below hb5 (Nat.le_refl _)
              have hblk5 := hblk4.below hb5 hblk4.lt
              have Z5 : w.heap.size + 1 ≤ w5.heap.size := Nat.le_trans Z4 hb5.size
              have B5 := Lib.hid (B4.out.trans (hb5.mono B4.out.size))
              clear hb5 hcl4 hown4 hblk4
              go_wp2_with (at_builtin; refine wpList_append_bytes rfl (.tmp 67) (.tmp 71) rfl (w.heap.size + 1) u5 out rfl (hown5.alloc _) ⟨w5.heap.size, 0, none⟩ 1 1 [t[k]] rfl rfl (newsU8 w5 5 [t[k]]) (by simp; omega) (by simp; omega) ?_; intro o4 w6 hown6 hb6)
              have hblk6 := (hblk5.alloc (.cells #[.int .u8 (t[k].toNat : Int)] 5)).below hb6 (by omega)
              have B6 := Lib.hid (B5.out.trans ((((Below.refl w5.heap.size w5).alloc (Nat.le_refl _) (.cells #[.int .u8 (t[k].toNat : Int)] 5)).mono B5.out.size).trans (hb6.mono (by omega))))
              have Z6 := Lib.hid (show w.heap.size + 1 ≤ w6.heap.size from by have := hb6.size; simp at this; omega)
              clear hb6
              go_wp2
              go_roundw
              case rel => exact ⟨k + 1, out ++ [t[k]], by omega, by go_num, HS.out, by simp; omega, hown6, hblk6, Z6.out, B6.out⟩
              case measure => simp [intOf]; omega
        · have HS := Lib.hid (show P.read f c r e s t.data.toList = (out ++ [t[k]]) ++ P.read f c r e s (t.data.toList.drop (k + 1)) from by rw [HR.out, HD.out, P.read_plain _ hbe]; simp)
          have tb : ((t[k].toNat : Int) != (e.toNat : Int)) = true := by rw [bne_iff_ne]; intro h; exact hbe (UInt8.toNat_inj.1 (by omega))
          clear hbe
          go_wp2_with fail
          refine wp_region_ext (by kernel_rfl) (by kernel_rfl) ?_
          repeat (first | go_big_quiet_step (fail) | quiet_step (fail))
          refine wpQuiet_nil ?_
          intro w3 hb3
          have hown3 := hown.below hb3 (Nat.le_refl _)
          have hblk3 := hblk.below hb3 hblk.lt
          have Z3 : w.heap.size + 1 ≤ w3.heap.size := Nat.le_trans hsz hb3.size
          have B3 := Lib.hid (hbel.trans (hb3.mono hbel.size))
          clear hb3 hcl hown hblk hbel tb hsz
          go_wp2_with (at_builtin; refine wpList_append_bytes rfl (.tmp 26) (.tmp 30) rfl (w.heap.size + 1) u5 out rfl (hown3.alloc _) ⟨w3.heap.size, 0, none⟩ 1 1 [t[k]] rfl rfl (newsU8 w3 5 [t[k]]) (by simp; omega) (by simp; omega) ?_; intro o4 w4 hown4 hb4)
          have hblk4 := (hblk3.alloc (.cells #[.int .u8 (t[k].toNat : Int)] 5)).below hb4 (by omega)
          have B4 := Lib.hid (B3.out.trans ((((Below.refl w3.heap.size w3).alloc (Nat.le_refl _) (.cells #[.int .u8 (t[k].toNat : Int)] 5)).mono B3.out.size).trans (hb4.mono (by omega))))
          have Z4 := Lib.hid (show w.heap.size + 1 ≤ w4.heap.size from by have := hb4.size; simp at this; omega)
          clear hb4
          go_wp2
          go_roundw
          case rel => exact ⟨k + 1, out ++ [t[k]], by omega, by go_num, HS.out, by simp; omega, hown4, hblk4, Z4.out, B4.out⟩
          case measure => simp [intOf]; omega
      · have hkn : k = t.size := by omega
        subst hkn
        have HT := Lib.hid (show P.read f c r e s t.data.toList = out from by rw [HR.out, List.drop_eq_nil_of_le (by simp), P.read_nil, List.append_nil])
        have hst := hown.string
        clear hown hblk HR
        go_wp2
        go_ret
        rw [HT.out]
        exact ⟨rfl, hbel⟩
end Go.Proofs.Ytefebcibcmjbaab
