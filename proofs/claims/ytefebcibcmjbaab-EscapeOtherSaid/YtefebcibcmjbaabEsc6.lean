/- What escape.Read returns: a text with what its escapes mean. For texts whose lengths a machine holds. -/
import Derived.Test.YtefebcibcmjbaabEsc4
import Derived.Test.YtefebcibcmjbaabOwnStr
import Derived.Test.YtefebcibcmjbaabEsc2
import Derived.BigQuiet
import Derived.Deep.QuietTactic
namespace Go.Proofs.Ytefebcibcmjbaab
set_option linter.unusedVariables false
open Go.RowKit Go.BigFrame
namespace P
theorem index_cut (e : UInt8) : ∀ l : List UInt8, Lib.indexByte l e = match cut e l with | none => -1 | some p => (p.1.length : Int)
  | [] => rfl
  | b :: l => by
    have ih := index_cut e l
    unfold Lib.indexByte cut
    by_cases h : b = e
    · simp [h]
    · have h2 : (b == e) = false := by simpa using h
      rw [ih]
      cases hc : cut e l with
      | none => simp [h]
      | some p =>
        simp [h]
theorem unhex_len : ∀ (d x : List UInt8), unhex d = some x → x.length ≤ d.length
  | [], x, h => by cases h; simp
  | [_], x, h => by cases h
  | a :: b :: r, x, h => by
    unfold unhex at h
    split at h
    · cases h
    · cases hu : unhex r with
      | none => rw [hu] at h; cases h
      | some z =>
        have := unhex_len r z hu
        rw [hu] at h; cases h
        simp; omega
theorem means_len {f c r e s : UInt8} {w v : List UInt8} (h : means f c r e s w = some v) : v.length ≤ w.length + 1 := by
  unfold means at h
  split at h
  · cases h; simp
  · split at h
    · split at h
      · cases h
      · have := unhex_len _ _ h
        simp; omega
    · cases h
theorem drop_eq (t : ByteArray) (k : Nat) (h : k < t.size) : t.data.toList.drop k = t[k] :: t.data.toList.drop (k + 1) := by
  rw [List.drop_eq_getElem_cons (by simpa using h)]; rfl
theorem ext_end (t : ByteArray) (k : Nat) : (t.extract k t.size).data.toList = t.data.toList.drop k := by
  simp [ByteArray.data_extract]
  rw [List.take_of_length_le (by simp)]
theorem ext_mid (t : ByteArray) (k n : Nat) : (t.extract k (k + n)).data.toList = (t.data.toList.drop k).take n := by
  simp [ByteArray.data_extract]
end P
/-- What stands at a label. -/
def ReadJ (f c r e s : UInt8) (t : ByteArray) (w : World) (l : Nat) (a : Act) (w' : World) : Prop :=
  ∃ (k : Nat) (out : List UInt8) (u3 u5 u7 u8 u9 u10 u11 u12 u13 u14 u15 u16 u17 u18 u19 u20 u21 u22 u23 u24 u25 u26 u27 u28 u29 u30 u31 u32 u33 u34 u35 u36 u37 u38 u39 u40 u41 u42 u43 u44 u45 u46 u47 u48 u49 u50 u51 u52 u53 u54 u55 u56 u57 u58 u59 u60 u61 u62 u63 u64 : Value), a = { tmps := #[.agg #[.int .u8 (f.toNat : Int), .int .u8 (c.toNat : Int), .int .u8 (r.toNat : Int), .int .u8 (e.toNat : Int), .int .u8 (s.toNat : Int)], .string t, .pointer (some ⟨w.heap.size, 0, none⟩), u3, .string ⟨#[]⟩, u5, .int .i64 (k : Int), u7, u8, u9, u10, u11, u12, u13, u14, u15, u16, u17, u18, u19, u20, u21, u22, u23, u24, u25, u26, u27, u28, u29, u30, u31, u32, u33, u34, u35, u36, u37, u38, u39, u40, u41, u42, u43, u44, u45, u46, u47, u48, u49, u50, u51, u52, u53, u54, u55, u56, u57, u58, u59, u60, u61, u62, u63, u64], defers := [] } ∧ k ≤ t.size ∧ P.read f c r e s t.data.toList = out ++ P.read f c r e s (t.data.toList.drop k) ∧ out.length ≤ k ∧ OwnB w' (w.heap.size + 1) u5 out ∧ Blk w' w.heap.size 23 #[.int .u8 (f.toNat : Int), .int .u8 (c.toNat : Int), .int .u8 (r.toNat : Int), .int .u8 (e.toNat : Int), .int .u8 (s.toNat : Int)] ∧ w.heap.size + 1 ≤ w'.heap.size ∧ Below w.heap.size w w' ∧ (l = 0 ∨ (l = 1 ∧ k < t.size ∧ P.read f c r e s (t.data.toList.drop k) = t.data.toList.getD k 0 :: P.read f c r e s (t.data.toList.drop (k + 1))))
theorem indexByte_any (s : ByteArray) (b : UInt8) (w : World) : Calls Try.prog 30 #[.string s, .int .u8 (b.toNat : Int)] w fun x w' => x = .returned (.int .i64 (Lib.indexByte s.data.toList b)) ∧ w = w' :=
  (Try.strings_IndexByte s (b.toNat : Int) w).mono fun x w' ⟨hx, hw⟩ => ⟨by simpa using hx, hw.symm⟩
theorem ext_blk6 {w : World} {g : Nat} {t : TypeId} {cs : Array Value} (h : Blk w g t cs) (x : Ext w) (i : Nat) : x.wd.cell? ⟨g, i, none⟩ = cs[i]? := by
  rw [x.cell (p := ⟨g, i, none⟩) h.lt, h.cell]
set_option maxRecDepth 100000 in
set_option maxHeartbeats 4000000 in
theorem read_any (f c r e s : UInt8) (t : ByteArray) (w : World) (hs : t.size ≤ 17592186044416) : Calls Try.prog 22 #[.agg #[.int .u8 (f.toNat : Int), .int .u8 (c.toNat : Int), .int .u8 (r.toNat : Int), .int .u8 (e.toNat : Int), .int .u8 (s.toNat : Int)], .string t] w fun x w' => x = .returned (.string (if P.valid [f, c, r, e, s] = true then ⟨(P.read f c r e s t.data.toList).toArray⟩ else t)) ∧ Below w.heap.size w w' := by
  cases hv : P.valid [f, c, r, e, s]
  · have vc := fun W => valid_any f c r e s W
    rw [hv] at vc
    have VC := Lib.hid vc
    rw [if_neg (by simp)]
    clear hv vc
    go_enter Try.func22, Try.ntmps22
    go_wp2
    refine wp_scope_two (fun _ _ _ => False) (fun l a _ => 0) rfl rfl (fun _ _ _ h => h.elim) (fun _ _ h => h.elim) (fun _ _ h => h.elim) (fun _ => ?_)
    go_wp2_with fail
    refine (VC.out _).mono ?_
    rintro x w2 ⟨rfl, hb2⟩
    have B2 := Lib.hid (box_below hb2)
    clear hb2
    go_wp2
    rw [jumpsTo_ret]
    go_ret
    exact ⟨rfl, B2.out⟩
  · have vc := fun W => valid_any f c r e s W
    rw [hv] at vc
    have VC := Lib.hid vc
    rw [if_pos rfl]
    clear hv vc
    go_enter Try.func22, Try.ntmps22
    go_wp2
    refine wp_scope_two (ReadJ f c r e s t w) (fun l a _ => 2 * (t.size - (intOf (a.tmps.getD 6 undef)).toNat) + (1 - l)) rfl rfl ?_ ?_ ?_ ?_
    · rintro l a w' ⟨k, out, u3, u5, u7, u8, u9, u10, u11, u12, u13, u14, u15, u16, u17, u18, u19, u20, u21, u22, u23, u24, u25, u26, u27, u28, u29, u30, u31, u32, u33, u34, u35, u36, u37, u38, u39, u40, u41, u42, u43, u44, u45, u46, u47, u48, u49, u50, u51, u52, u53, u54, u55, u56, u57, u58, u59, u60, u61, u62, u63, u64, h1, h2, h3, h4, h5, h6, h7, h8, h | h⟩
      · exact Or.inl h
      · exact Or.inr h.1
    · clear VC
      rintro a w' ⟨k, out, u3, u5, u7, u8, u9, u10, u11, u12, u13, u14, u15, u16, u17, u18, u19, u20, u21, u22, u23, u24, u25, u26, u27, u28, u29, u30, u31, u32, u33, u34, u35, u36, u37, u38, u39, u40, u41, u42, u43, u44, u45, u46, u47, u48, u49, u50, u51, u52, u53, u54, u55, u56, u57, u58, u59, u60, u61, u62, u63, u64, rfl, hk, hread, hout, hown, hblk, hsz, hbel, -⟩
      have HR := Lib.hid hread
      clear hread
      by_cases hlt : k < t.size
      · have hi := fun W => idx_atu t k hlt rfl W
        have hd := P.drop_eq t k hlt
        have hg : t.data.toList.getD k 0 = t[k] := by
          rw [List.getD_eq_getElem?_getD, List.getElem?_eq_getElem (by simpa using hlt)]
          rfl
        have HD := Lib.hid hd
        have HGt := Lib.hid hg
        have hcl := fun x => fun i => ext_blk6 hblk x i
        clear hd hg
        by_cases hbe : t[k] = e
        · have tb : ((t[k].toNat : Int) != (e.toNat : Int)) = false := by rw [hbe]; simp
          have HBE := Lib.hid hbe
          clear hbe
          go_wp2_with fail
          refine wp_region_ext (by kernel_rfl) (by kernel_rfl) ?_
          repeat (first | go_big_quiet_step (fail) | quiet_step (fail))
          refine wpQuiet_nil ?_
          intro w3 hb3
          have hown3 := hown.below hb3 (Nat.le_refl _)
          have hblk3 := hblk.below hb3 hblk.lt
          have Z3 : w.heap.size + 1 ≤ w3.heap.size := Nat.le_trans hsz hb3.size
          have B3 := Lib.hid (hbel.trans (hb3.mono hbel.size))
          clear hb3 hcl hown hblk hbel hi tb
          have hwr : IntKind.i64.wrap ((k : Int) + 1) = (k : Int) + 1 := by rw [IntKind.wrap_i64]; omega
          have ic := fun W => indexByte_any (t.extract (k + 1) t.size) e W
          rw [P.ext_end, P.index_cut] at ic
          have hcl3 := fun x => fun i => ext_blk6 hblk3 x i
          cases hc : P.cut e (t.data.toList.drop (k + 1)) with
          | none =>
            rw [hc] at ic
            have HS := Lib.hid (show P.read f c r e s (t.data.toList.drop k) = t.data.toList.getD k 0 :: P.read f c r e s (t.data.toList.drop (k + 1)) from by rw [HD.out, HGt.out, HBE.out, P.read_open hc])
            have IC := Lib.hid (show ∀ W, Calls Try.prog 30 #[.string (t.extract (k + 1) t.size), .int .u8 (e.toNat : Int)] W fun x w' => x = .returned (.int .i64 (-1)) ∧ W = w' from ic)
            clear ic hc
            go_wp2_with fail
            refine wp_region_ext (by kernel_rfl) (by kernel_rfl) ?_
            repeat (first | go_big_quiet_step ((go_at_call 30; exact Ext.calls_same _ (IC.out _))) | quiet_step ((go_at_call 30; exact Ext.calls_same _ (IC.out _))))
            refine wpQuiet_nil ?_
            intro w4 hb4
            have hown4 := hown3.below hb4 (Nat.le_refl _)
            have hblk4 := hblk3.below hb4 hblk3.lt
            have Z4 : w.heap.size + 1 ≤ w4.heap.size := Nat.le_trans Z3 hb4.size
            have B4 := Lib.hid (B3.out.trans (hb4.mono B3.out.size))
            clear hb4 hcl3 hown3 hblk3 hwr
            go_wp2
            go_step3
            exact ⟨⟨k, out, _, _, _, _, _, _, _, _, _, _, _, _, _, _, _, _, _, _, _, _, _, _, _, _, _, _, _, _, _, _, _, _, _, _, _, _, _, _, _, _, _, _, _, _, _, _, _, _, _, _, _, _, _, _, _, _, _, _, _, _, rfl, hk, HR.out, hout, hown4, hblk4, Z4, B4.out, Or.inr ⟨rfl, hlt, HS.out⟩⟩, by simp [intOf]⟩
          | some p =>
            obtain ⟨wd, u⟩ := p
            rw [hc] at ic
            obtain ⟨hcut, -⟩ := P.cut_eq hc
            have hlen := congrArg List.length hcut
            simp at hlen
            have hn : k + 1 + wd.length + 1 ≤ t.size := by omega
            have IC := Lib.hid (show ∀ W, Calls Try.prog 30 #[.string (t.extract (k + 1) t.size), .int .u8 (e.toNat : Int)] W fun x w' => x = .returned (.int .i64 (wd.length : Int)) ∧ W = w' from ic)
            have mc := fun W => meant_any f c r e s (t.extract (k + 1) (k + 1 + wd.length)) W (by simp; omega)
            rw [P.ext_mid, hcut, List.take_left' rfl] at mc
            have HU := Lib.hid (show t.data.toList.drop (k + (wd.length + 2)) = u from by rw [show k + (wd.length + 2) = (k + 1) + (wd.length + 1) from by omega, ← List.drop_drop, hcut]; simp)
            have HC := Lib.hid hc
            clear ic hc hcut hlen
            generalize hnn : wd.length = n at *
            have HN := Lib.hid hnn
            clear hnn
            go_wp2_with fail
            refine wp_region_ext (by kernel_rfl) (by kernel_rfl) ?_
            repeat (first | go_big_quiet_step ((go_at_call 30; exact Ext.calls_same _ (IC.out _))) | quiet_step ((go_at_call 30; exact Ext.calls_same _ (IC.out _))))
            refine wpQuiet_nil ?_
            intro w4 hb4
            have hown4 := hown3.below hb4 (Nat.le_refl _)
            have hblk4 := hblk3.below hb4 hblk3.lt
            have Z4 : w.heap.size + 1 ≤ w4.heap.size := Nat.le_trans Z3 hb4.size
            have B4 := Lib.hid (B3.out.trans (hb4.mono B3.out.size))
            have hcl4 := fun x => fun i => ext_blk6 hblk4 x i
            clear hb4 hcl3 hown3 hblk3
            have hwr2 : IntKind.i64.wrap ((k : Int) + 1 + (n : Int)) = (k : Int) + 1 + (n : Int) := by rw [IntKind.wrap_i64]; omega
            cases hm : P.means f c r e s wd with
            | none =>
              have HS := Lib.hid (show P.read f c r e s (t.data.toList.drop k) = t.data.toList.getD k 0 :: P.read f c r e s (t.data.toList.drop (k + 1)) from by rw [HD.out, HGt.out, HBE.out, P.read_none HC.out hm])
              rw [hm] at mc
              have MC := Lib.hid mc
              clear mc hm
              generalize P.meantS f c r e s wd = ms at *
              go_wp2_with fail
              refine wp_region_ext (by kernel_rfl) (by kernel_rfl) ?_
              repeat (first | go_big_quiet_step ((go_at_call 31; exact Ext.calls _ (MC.out _))) | quiet_step ((go_at_call 31; exact Ext.calls _ (MC.out _))))
              refine wpQuiet_nil ?_
              intro w5 hb5
              have hown5 := hown4.below hb5 (Nat.le_refl _)
              have hblk5 := hblk4.below hb5 hblk4.lt
              have Z5 : w.heap.size + 1 ≤ w5.heap.size := Nat.le_trans Z4 hb5.size
              have B5 := Lib.hid (B4.out.trans (hb5.mono B4.out.size))
              clear hb5 hcl4 hown4 hblk4 hwr hwr2
              go_wp2
              go_step3
              exact ⟨⟨k, out, _, _, _, _, _, _, _, _, _, _, _, _, _, _, _, _, _, _, _, _, _, _, _, _, _, _, _, _, _, _, _, _, _, _, _, _, _, _, _, _, _, _, _, _, _, _, _, _, _, _, _, _, _, _, _, _, _, _, _, _, rfl, hk, HR.out, hout, hown5, hblk5, Z5, B5.out, Or.inr ⟨rfl, hlt, HS.out⟩⟩, by simp [intOf]⟩
            | some v =>
              have hvl := P.means_len hm
              have HS := Lib.hid (show P.read f c r e s t.data.toList = (out ++ v) ++ P.read f c r e s (t.data.toList.drop (k + (n + 2))) from by rw [HR.out, HD.out, HBE.out, P.read_some HC.out hm, HU.out, List.append_assoc])
              have hvl2 : v.length ≤ n + 1 := by have := HN.out; omega
              rw [P.meantS_some hm, hm] at mc
              have MC := Lib.hid mc
              clear mc hm hvl
              go_wp2_with fail
              refine wp_region_ext (by kernel_rfl) (by kernel_rfl) ?_
              repeat (first | go_big_quiet_step ((go_at_call 31; exact Ext.calls _ (MC.out _))) | quiet_step ((go_at_call 31; exact Ext.calls _ (MC.out _))))
              refine wpQuiet_nil ?_
              intro w5 hb5
              have hown5 := hown4.below hb5 (Nat.le_refl _)
              have hblk5 := hblk4.below hb5 hblk4.lt
              have Z5 : w.heap.size + 1 ≤ w5.heap.size := Nat.le_trans Z4 hb5.size
              have B5 := Lib.hid (B4.out.trans (hb5.mono B4.out.size))
              clear hb5 hcl4 hown4 hblk4 hwr hwr2
              go_wp2_with (at_builtin; refine wpList_append_str rfl (.tmp 50) (.tmp 51) rfl (w.heap.size + 1) u5 out rfl hown5 ⟨v.toArray⟩ rfl (by show out.length + v.length ≤ _; omega) Z5 ?_; intro o4 w6 hown6 hb6)
              have hblk6 := hblk5.below hb6 (by omega)
              have B6 := Lib.hid (B5.out.trans (hb6.mono (by omega)))
              have Z6 := Lib.hid (show w.heap.size + 1 ≤ w6.heap.size from Nat.le_trans Z5 hb6.size)
              clear hb6
              go_wp2
              go_step3
              exact ⟨⟨k + (n + 2), out ++ v, _, _, _, _, _, _, _, _, _, _, _, _, _, _, _, _, _, _, _, _, _, _, _, _, _, _, _, _, _, _, _, _, _, _, _, _, _, _, _, _, _, _, _, _, _, _, _, _, _, _, _, _, _, _, _, _, _, _, _, _, by go_num, by omega, HS.out, by simp; omega, hown6, hblk6, Z6.out, B6.out, Or.inl rfl⟩, by simp [intOf]; omega⟩
        · have HS := Lib.hid (show P.read f c r e s (t.data.toList.drop k) = t.data.toList.getD k 0 :: P.read f c r e s (t.data.toList.drop (k + 1)) from by rw [HD.out, HGt.out, P.read_plain _ hbe])
          have tb : ((t[k].toNat : Int) != (e.toNat : Int)) = true := by rw [bne_iff_ne]; intro h; exact hbe (UInt8.toNat_inj.1 (by omega))
          clear hbe
          go_wp2_with fail
          refine wp_region_ext (by kernel_rfl) (by kernel_rfl) ?_
          repeat (first | go_big_quiet_step (fail) | quiet_step (fail))
          refine wpQuiet_nil ?_
          intro w3 hb3
          have hown3 := hown.below hb3 (Nat.le_refl _)
          have hblk3 := hblk.below hb3 hblk.lt
          have Z3 : w.heap.size + 1 ≤ w3.heap.size := Nat.le_trans hsz hb3.size
          have B3 := Lib.hid (hbel.trans (hb3.mono hbel.size))
          clear hb3 hcl hown hblk hbel hi
          go_wp2
          go_step3
          exact ⟨⟨k, out, _, _, _, _, _, _, _, _, _, _, _, _, _, _, _, _, _, _, _, _, _, _, _, _, _, _, _, _, _, _, _, _, _, _, _, _, _, _, _, _, _, _, _, _, _, _, _, _, _, _, _, _, _, _, _, _, _, _, _, _, rfl, hk, HR.out, hout, hown3, hblk3, Z3, B3.out, Or.inr ⟨rfl, hlt, HS.out⟩⟩, by simp [intOf]⟩
      · have hkn : k = t.size := by omega
        subst hkn
        have HT := Lib.hid (show P.read f c r e s t.data.toList = out from by rw [HR.out, List.drop_eq_nil_of_le (by simp), P.read_nil, List.append_nil])
        have hst := hown.string
        clear hown hblk HR
        go_wp2
        rw [jumpsTo_ret]
        go_ret
        rw [HT.out]
        exact ⟨rfl, hbel⟩
    · clear VC
      rintro a w' ⟨k, out, u3, u5, u7, u8, u9, u10, u11, u12, u13, u14, u15, u16, u17, u18, u19, u20, u21, u22, u23, u24, u25, u26, u27, u28, u29, u30, u31, u32, u33, u34, u35, u36, u37, u38, u39, u40, u41, u42, u43, u44, u45, u46, u47, u48, u49, u50, u51, u52, u53, u54, u55, u56, u57, u58, u59, u60, u61, u62, u63, u64, rfl, hk, hread, hout, hown, hblk, hsz, hbel, h⟩
      obtain h | ⟨-, hlt, hstep⟩ := h
      · cases h
      have hg : t.data.toList.getD k 0 = t[k] := by
        rw [List.getD_eq_getElem?_getD, List.getElem?_eq_getElem (by simpa using hlt)]
        rfl
      have HR := Lib.hid (show P.read f c r e s t.data.toList = (out ++ [t[k]]) ++ P.read f c r e s (t.data.toList.drop (k + 1)) from by rw [hread, hstep, hg]; simp)
      clear hread hstep hg
      go_wp2_with (at_builtin; refine wpList_append_bytes rfl (.tmp 57) (.tmp 61) rfl (w.heap.size + 1) u5 out rfl (hown.alloc _) ⟨w'.heap.size, 0, none⟩ 1 1 [t[k]] rfl rfl (newsU8 w' 5 [t[k]]) (by simp; omega) (by simp; omega) ?_; intro o4 w4 hown4 hb4)
      have hblk4 := (hblk.alloc (.cells #[.int .u8 (t[k].toNat : Int)] 5)).below hb4 (by omega)
      have B4 := Lib.hid (hbel.trans ((((Below.refl w'.heap.size w').alloc (Nat.le_refl _) (.cells #[.int .u8 (t[k].toNat : Int)] 5)).mono hbel.size).trans (hb4.mono (by omega))))
      have Z4 := Lib.hid (show w.heap.size + 1 ≤ w4.heap.size from by have := hb4.size; simp at this; omega)
      clear hb4
      go_wp2
      go_step3
      exact ⟨⟨k + 1, out ++ [t[k]], _, _, _, _, _, _, _, _, _, _, _, _, _, _, _, _, _, _, _, _, _, _, _, _, _, _, _, _, _, _, _, _, _, _, _, _, _, _, _, _, _, _, _, _, _, _, _, _, _, _, _, _, _, _, _, _, _, _, _, _, by go_num, by omega, HR.out, by simp; omega, hown4, hblk4, Z4.out, B4.out, Or.inl rfl⟩, by simp [intOf]; omega⟩
    · intro hgo
      have HG := Lib.hid hgo
      clear hgo
      go_wp2_with fail
      refine (VC.out _).mono ?_
      rintro x w2 ⟨rfl, hb2⟩
      have B2 := Lib.hid (box_below hb2)
      have K2 := Lib.hid ((Blk.new w 23 #[.int .u8 (f.toNat : Int), .int .u8 (c.toNat : Int), .int .u8 (r.toNat : Int), .int .u8 (e.toNat : Int), .int .u8 (s.toNat : Int)]).below hb2 (by simp))
      have Z2 := Lib.hid (show w.heap.size + 1 ≤ w2.heap.size from by have := hb2.size; simp at this; omega)
      clear hb2
      go_wp2
      go_step3
      rename_i K hK
      refine hK _ _ (HG.out _ _ ?_)
      exact ⟨0, [], _, _, _, _, _, _, _, _, _, _, _, _, _, _, _, _, _, _, _, _, _, _, _, _, _, _, _, _, _, _, _, _, _, _, _, _, _, _, _, _, _, _, _, _, _, _, _, _, _, _, _, _, _, _, _, _, _, _, _, _, rfl, by omega, rfl, by simp, OwnB.nil _ _, K2.out, Z2.out, B2.out, Or.inl rfl⟩
end Go.Proofs.Ytefebcibcmjbaab
