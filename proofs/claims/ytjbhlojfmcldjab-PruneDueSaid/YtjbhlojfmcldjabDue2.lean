/- What the reference's Due returns. -/
import Derived.Test.YtjbhlojfmcldjabDue1
namespace Go.Proofs.Ytjbhlojfmcldjab
set_option linter.unusedVariables false
open Go.RowKit Go.BigFrame
namespace P
/-- What a row's time says by the reference. -/
theorem old_pos {done now ret : Int} (h : 0 < ret) (h0 : 0 ≤ done) : old done now ret = (decide (done ≤ now) && decide (ret ≤ now - done)) := by
  unfold old
  rw [if_neg (by omega)]
  by_cases h1 : now < 0
  · rw [if_pos h1, Eq.comm, Bool.and_eq_false_iff]
    left
    simp; omega
  · rw [if_neg h1, Bool.eq_iff_iff, Bool.and_eq_true]
    simp
    omega
theorem old_neg {done now ret : Int} (h : ret < 0) : old done now ret = (decide (done ≤ now) || decide (done + ret ≤ now)) := by
  unfold old
  rw [if_pos h, Bool.eq_iff_iff, Bool.or_eq_true]
  simp
  omega
theorem due_zero_all (now : Int) (rows : List RowV) : due now 0 rows = [] := by
  unfold due
  have : rows.filter (mayGo now 0) = [] := by
    rw [List.filter_eq_nil_iff]
    intro r _
    simp [mayGo]
  rw [this]; rfl
end P
theorem P.mayGo_of {now ret : Int} {r : P.RowV} (h : (ret != 0) = true) : P.mayGo now ret r = (P.terminal r.state r.legs && (decide (0 ≤ r.done) && P.old r.done now ret)) := by
  unfold P.mayGo
  rw [h]; rfl
set_option maxRecDepth 100000 in
set_option maxHeartbeats 4000000 in
theorem refDue_any (A : Option Addr) (n c : Nat) (rs : List P.RowV) (now ret : Int) (B : Nat) (w : World)
    (h : RowsAt w B A n rs) (hB : B ≤ w.heap.size) (hn : n ≤ 1099511627776) (hd : ∀ r ∈ rs, (Lit.int .i64 r.done).wf = true) (h2 : -9223372036854775808 ≤ now) (h3 : now ≤ 9223372036854775807) (h4 : -9223372036854775808 ≤ ret) (h5 : ret ≤ 9223372036854775807) :
    Calls Try.prog 19 #[.slice A n c, .int .i64 now, .int .i64 ret] w (GivesI w (P.due now ret rs)) := by
  have H := Lib.hid h
  have HD := Lib.hid hd
  clear h hd
  go_enter Try.func19, Try.ntmps19
  go_wp2_with fail
  go_loopw [7, 8] (fun o x wr => ∃ (k : Nat), k ≤ n ∧ x = .int .i64 k ∧ OwnI wr w.heap.size o (P.due now ret (rs.take k)) ∧ Below w.heap.size w wr) (fun _ x _ => n - (intOf x).toNat)
  case atStart => exact ⟨0, by omega, rfl, OwnI.nil _ _, Below.refl _ _⟩
  case round =>
    obtain ⟨k, hk, rfl, hown, hbel⟩ := hrel
    by_cases hlt : k < n
    · have tk : decide ((k : Int) < (n : Int)) = true := by simp; omega
      by_cases hr0 : ret = 0
      · have tr : (ret != 0) = false := by rw [hr0]; rfl
        have HN := Lib.hid (show P.due now ret (rs.take k) = P.due now ret rs from by rw [hr0, P.due_zero_all, P.due_zero_all])
        have OW := Lib.hid hown
        have BW := Lib.hid hbel
        clear hr0 hown hbel
        go_wp2
        go_ret
        rw [← HN.out]
        exact ⟨_, rfl, OW.out, BW.out⟩
      · have tr : (ret != 0) = true := by simpa using hr0
        obtain ⟨ad, r, rfl, hrb, hrk, hrl, hrm, hrc⟩ := (H.out.below (hbel.mono hB)).in_ hlt
        have HS := Lib.hid (P.due_step (now := now) (ret := ret) hrk)
        have hlen : (P.due now ret (rs.take k)).length ≤ k := by
          have := P.due_le now ret (rs.take k)
          rw [List.length_take] at this
          omega
        have HLN := Lib.hid hlen
        obtain ⟨c0, c1, c2, c3, c4, c5, c6, c7⟩ := hrc
        have hdw := bounds_i64 (HD.out r (List.mem_of_getElem? hrk))
        have hd0 : -9223372036854775808 ≤ r.done := by omega
        have hd1 : r.done ≤ 9223372036854775807 := by omega
        have DB := Lib.hid (Blk.new wr 33 #[.int .i64 r.id, .int .i64 r.run, .int .i64 r.time, .int .i64 r.state, .int .i64 r.done, .string r.raw, .int .i64 r.fault, .slice r.A r.m r.cp])
        have TT := Lib.hid (fun W (hW : Below wr.heap.size wr W) => refTerminal_any r.id r.run r.time r.state r.done r.fault r.raw r.A r.m r.cp r.legs _ W ((hrl.more (Nat.le_trans hB hbel.size)).below hW) hW.size hrm)
        have OW := Lib.hid (hown.alloc (.cells #[.int .i64 r.id, .int .i64 r.run, .int .i64 r.time, .int .i64 r.state, .int .i64 r.done, .string r.raw, .int .i64 r.fault, .slice r.A r.m r.cp] 33))
        have BW := Lib.hid (hbel.alloc hbel.size (.cells #[.int .i64 r.id, .int .i64 r.run, .int .i64 r.time, .int .i64 r.state, .int .i64 r.done, .string r.raw, .int .i64 r.fault, .slice r.A r.m r.cp] 33))
        have BA := Lib.hid ((Below.refl wr.heap.size wr).alloc (Nat.le_refl _) (.cells #[.int .i64 r.id, .int .i64 r.run, .int .i64 r.time, .int .i64 r.state, .int .i64 r.done, .string r.raw, .int .i64 r.fault, .slice r.A r.m r.cp] 33))
        have MG := P.mayGo_of (now := now) (ret := ret) (r := r) tr
        clear hrk hlen hrl hown hbel hdw
        generalize P.due now ret (rs.take k) = acc at *
        by_cases hn0 : 0 ≤ r.done
        · have td : decide (0 ≤ r.done) = true := by simpa using hn0
          by_cases hp : 0 < ret
          · have tp : decide (0 < ret) = true := by simpa using hp
            have tm : decide (ret < 0) = false := by simp; omega
            have MO := P.old_pos (done := r.done) (now := now) hp hn0
            by_cases hle : r.done ≤ now
            · have tl : decide (r.done ≤ now) = true := by simpa using hle
              cases te : decide (ret ≤ now - r.done)
              · have hg : P.mayGo now ret r = false := by rw [MG, MO, td, tl, te]; simp
                clear MG MO
                cases hT : P.terminal r.state r.legs
                · have HG := Lib.hid (HS.out.trans (by rw [hg]; rfl : acc ++ (if P.mayGo now ret r = true then [r.id] else []) = acc ++ []))
                  rw [hT] at TT
                  clear HS hg hT
                  have k0 := fun i => DB.out.cell i
                  go_wp2_with fail
                  refine (TT.out _ BA.out).mono ?_
                  rintro x w2 ⟨rfl, hb2⟩
                  have O2 := Lib.hid (OW.out.below hb2 (Nat.le_refl _))
                  have B2 := Lib.hid (BW.out.trans (hb2.mono BW.out.size))
                  have k1 := fun i => (DB.out.below hb2 DB.out.lt).cell i
                  clear hb2 k0
                  go_wp2
                  go_roundw
                  case rel => exact ⟨k + 1, by omega, by go_num, by rw [HG.out, List.append_nil]; exact O2.out, B2.out⟩
                  case measure => simp [intOf]; omega
                · have HG := Lib.hid (HS.out.trans (by rw [hg]; rfl : acc ++ (if P.mayGo now ret r = true then [r.id] else []) = acc ++ []))
                  rw [hT] at TT
                  clear HS hg hT
                  have k0 := fun i => DB.out.cell i
                  go_wp2_with fail
                  refine (TT.out _ BA.out).mono ?_
                  rintro x w2 ⟨rfl, hb2⟩
                  have O2 := Lib.hid (OW.out.below hb2 (Nat.le_refl _))
                  have B2 := Lib.hid (BW.out.trans (hb2.mono BW.out.size))
                  have k1 := fun i => (DB.out.below hb2 DB.out.lt).cell i
                  clear hb2 k0
                  go_wp2
                  go_roundw
                  case rel => exact ⟨k + 1, by omega, by go_num, by rw [HG.out, List.append_nil]; exact O2.out, B2.out⟩
                  case measure => simp [intOf]; omega
              · cases hT : P.terminal r.state r.legs
                · have hg : P.mayGo now ret r = false := by rw [MG, hT]; rfl
                  clear MG MO
                  have HG := Lib.hid (HS.out.trans (by rw [hg]; rfl : acc ++ (if P.mayGo now ret r = true then [r.id] else []) = acc ++ []))
                  rw [hT] at TT
                  clear HS hg hT
                  have k0 := fun i => DB.out.cell i
                  go_wp2_with fail
                  refine (TT.out _ BA.out).mono ?_
                  rintro x w2 ⟨rfl, hb2⟩
                  have O2 := Lib.hid (OW.out.below hb2 (Nat.le_refl _))
                  have B2 := Lib.hid (BW.out.trans (hb2.mono BW.out.size))
                  have k1 := fun i => (DB.out.below hb2 DB.out.lt).cell i
                  clear hb2 k0
                  go_wp2
                  go_roundw
                  case rel => exact ⟨k + 1, by omega, by go_num, by rw [HG.out, List.append_nil]; exact O2.out, B2.out⟩
                  case measure => simp [intOf]; omega
                · have hg : P.mayGo now ret r = true := by rw [MG, MO, td, tl, te, hT]; rfl
                  clear MG MO
                  have HG := Lib.hid (HS.out.trans (by rw [hg]; rfl : acc ++ (if P.mayGo now ret r = true then [r.id] else []) = acc ++ [r.id]))
                  rw [hT] at TT
                  clear HS hg hT
                  have k0 := fun i => DB.out.cell i
                  go_wp2_with fail
                  refine (TT.out _ BA.out).mono ?_
                  rintro x w2 ⟨rfl, hb2⟩
                  have O2 := Lib.hid (OW.out.below hb2 (Nat.le_refl _))
                  have B2 := Lib.hid (BW.out.trans (hb2.mono BW.out.size))
                  have k1 := fun i => (DB.out.below hb2 DB.out.lt).cell i
                  have Z2 := Lib.hid (show w.heap.size ≤ w2.heap.size from B2.out.size)
                  clear hb2 k0
                  go_wp2_with (at_builtin; refine wpList_append_int1 rfl (.tmp 65) (.tmp 68) rfl w.heap.size u7 acc rfl (O2.out.alloc (.cells #[.int .i64 r.id] 3)) ⟨w2.heap.size, 0, none⟩ r.id rfl (newsI w2 3 r.id) (by have := HLN.out; omega) (by have := Z2.out; simp; omega) ?_; intro o4 w4 hown4 hb4 hg4)
                  have W4 := Lib.hid ((B2.out.alloc B2.out.size (.cells #[.int .i64 r.id] 3)).trans hb4)
                  clear hb4 hg4
                  go_wp2
                  go_roundw
                  case rel => exact ⟨k + 1, by omega, by go_num, by rw [HG.out]; exact hown4, W4.out⟩
                  case measure => simp [intOf]; omega
            · have tl : decide (r.done ≤ now) = false := by simpa using hle
              have hg : P.mayGo now ret r = false := by rw [MG, MO, td, tl]; simp
              clear MG MO
              cases hT : P.terminal r.state r.legs
              · have HG := Lib.hid (HS.out.trans (by rw [hg]; rfl : acc ++ (if P.mayGo now ret r = true then [r.id] else []) = acc ++ []))
                rw [hT] at TT
                clear HS hg hT
                have k0 := fun i => DB.out.cell i
                go_wp2_with fail
                refine (TT.out _ BA.out).mono ?_
                rintro x w2 ⟨rfl, hb2⟩
                have O2 := Lib.hid (OW.out.below hb2 (Nat.le_refl _))
                have B2 := Lib.hid (BW.out.trans (hb2.mono BW.out.size))
                have k1 := fun i => (DB.out.below hb2 DB.out.lt).cell i
                clear hb2 k0
                go_wp2
                go_roundw
                case rel => exact ⟨k + 1, by omega, by go_num, by rw [HG.out, List.append_nil]; exact O2.out, B2.out⟩
                case measure => simp [intOf]; omega
              · have HG := Lib.hid (HS.out.trans (by rw [hg]; rfl : acc ++ (if P.mayGo now ret r = true then [r.id] else []) = acc ++ []))
                rw [hT] at TT
                clear HS hg hT
                have k0 := fun i => DB.out.cell i
                go_wp2_with fail
                refine (TT.out _ BA.out).mono ?_
                rintro x w2 ⟨rfl, hb2⟩
                have O2 := Lib.hid (OW.out.below hb2 (Nat.le_refl _))
                have B2 := Lib.hid (BW.out.trans (hb2.mono BW.out.size))
                have k1 := fun i => (DB.out.below hb2 DB.out.lt).cell i
                clear hb2 k0
                go_wp2
                go_roundw
                case rel => exact ⟨k + 1, by omega, by go_num, by rw [HG.out, List.append_nil]; exact O2.out, B2.out⟩
                case measure => simp [intOf]; omega
          · have hm : ret < 0 := by omega
            have tp : decide (0 < ret) = false := by simpa using hp
            have tm : decide (ret < 0) = true := by simpa using hm
            have MO := P.old_neg (done := r.done) (now := now) hm
            by_cases hle : r.done ≤ now
            · have tl : decide (r.done ≤ now) = true := by simpa using hle
              cases hT : P.terminal r.state r.legs
              · have hg : P.mayGo now ret r = false := by rw [MG, hT]; rfl
                clear MG MO
                have HG := Lib.hid (HS.out.trans (by rw [hg]; rfl : acc ++ (if P.mayGo now ret r = true then [r.id] else []) = acc ++ []))
                rw [hT] at TT
                clear HS hg hT
                have k0 := fun i => DB.out.cell i
                go_wp2_with fail
                refine (TT.out _ BA.out).mono ?_
                rintro x w2 ⟨rfl, hb2⟩
                have O2 := Lib.hid (OW.out.below hb2 (Nat.le_refl _))
                have B2 := Lib.hid (BW.out.trans (hb2.mono BW.out.size))
                have k1 := fun i => (DB.out.below hb2 DB.out.lt).cell i
                clear hb2 k0
                go_wp2
                go_roundw
                case rel => exact ⟨k + 1, by omega, by go_num, by rw [HG.out, List.append_nil]; exact O2.out, B2.out⟩
                case measure => simp [intOf]; omega
              · have hg : P.mayGo now ret r = true := by rw [MG, MO, td, tl, hT]; rfl
                clear MG MO
                have HG := Lib.hid (HS.out.trans (by rw [hg]; rfl : acc ++ (if P.mayGo now ret r = true then [r.id] else []) = acc ++ [r.id]))
                rw [hT] at TT
                clear HS hg hT
                have k0 := fun i => DB.out.cell i
                go_wp2_with fail
                refine (TT.out _ BA.out).mono ?_
                rintro x w2 ⟨rfl, hb2⟩
                have O2 := Lib.hid (OW.out.below hb2 (Nat.le_refl _))
                have B2 := Lib.hid (BW.out.trans (hb2.mono BW.out.size))
                have k1 := fun i => (DB.out.below hb2 DB.out.lt).cell i
                have Z2 := Lib.hid (show w.heap.size ≤ w2.heap.size from B2.out.size)
                clear hb2 k0
                go_wp2_with (at_builtin; refine wpList_append_int1 rfl (.tmp 65) (.tmp 68) rfl w.heap.size u7 acc rfl (O2.out.alloc (.cells #[.int .i64 r.id] 3)) ⟨w2.heap.size, 0, none⟩ r.id rfl (newsI w2 3 r.id) (by have := HLN.out; omega) (by have := Z2.out; simp; omega) ?_; intro o4 w4 hown4 hb4 hg4)
                have W4 := Lib.hid ((B2.out.alloc B2.out.size (.cells #[.int .i64 r.id] 3)).trans hb4)
                clear hb4 hg4
                go_wp2
                go_roundw
                case rel => exact ⟨k + 1, by omega, by go_num, by rw [HG.out]; exact hown4, W4.out⟩
                case measure => simp [intOf]; omega
            · have tl : decide (r.done ≤ now) = false := by simpa using hle
              cases te : decide (r.done + ret ≤ now)
              · have hg : P.mayGo now ret r = false := by rw [MG, MO, td, tl, te]; simp
                clear MG MO
                cases hT : P.terminal r.state r.legs
                · have HG := Lib.hid (HS.out.trans (by rw [hg]; rfl : acc ++ (if P.mayGo now ret r = true then [r.id] else []) = acc ++ []))
                  rw [hT] at TT
                  clear HS hg hT
                  have k0 := fun i => DB.out.cell i
                  go_wp2_with fail
                  refine (TT.out _ BA.out).mono ?_
                  rintro x w2 ⟨rfl, hb2⟩
                  have O2 := Lib.hid (OW.out.below hb2 (Nat.le_refl _))
                  have B2 := Lib.hid (BW.out.trans (hb2.mono BW.out.size))
                  have k1 := fun i => (DB.out.below hb2 DB.out.lt).cell i
                  clear hb2 k0
                  go_wp2
                  go_roundw
                  case rel => exact ⟨k + 1, by omega, by go_num, by rw [HG.out, List.append_nil]; exact O2.out, B2.out⟩
                  case measure => simp [intOf]; omega
                · have HG := Lib.hid (HS.out.trans (by rw [hg]; rfl : acc ++ (if P.mayGo now ret r = true then [r.id] else []) = acc ++ []))
                  rw [hT] at TT
                  clear HS hg hT
                  have k0 := fun i => DB.out.cell i
                  go_wp2_with fail
                  refine (TT.out _ BA.out).mono ?_
                  rintro x w2 ⟨rfl, hb2⟩
                  have O2 := Lib.hid (OW.out.below hb2 (Nat.le_refl _))
                  have B2 := Lib.hid (BW.out.trans (hb2.mono BW.out.size))
                  have k1 := fun i => (DB.out.below hb2 DB.out.lt).cell i
                  clear hb2 k0
                  go_wp2
                  go_roundw
                  case rel => exact ⟨k + 1, by omega, by go_num, by rw [HG.out, List.append_nil]; exact O2.out, B2.out⟩
                  case measure => simp [intOf]; omega
              · cases hT : P.terminal r.state r.legs
                · have hg : P.mayGo now ret r = false := by rw [MG, hT]; rfl
                  clear MG MO
                  have HG := Lib.hid (HS.out.trans (by rw [hg]; rfl : acc ++ (if P.mayGo now ret r = true then [r.id] else []) = acc ++ []))
                  rw [hT] at TT
                  clear HS hg hT
                  have k0 := fun i => DB.out.cell i
                  go_wp2_with fail
                  refine (TT.out _ BA.out).mono ?_
                  rintro x w2 ⟨rfl, hb2⟩
                  have O2 := Lib.hid (OW.out.below hb2 (Nat.le_refl _))
                  have B2 := Lib.hid (BW.out.trans (hb2.mono BW.out.size))
                  have k1 := fun i => (DB.out.below hb2 DB.out.lt).cell i
                  clear hb2 k0
                  go_wp2
                  go_roundw
                  case rel => exact ⟨k + 1, by omega, by go_num, by rw [HG.out, List.append_nil]; exact O2.out, B2.out⟩
                  case measure => simp [intOf]; omega
                · have hg : P.mayGo now ret r = true := by rw [MG, MO, td, tl, te, hT]; rfl
                  clear MG MO
                  have HG := Lib.hid (HS.out.trans (by rw [hg]; rfl : acc ++ (if P.mayGo now ret r = true then [r.id] else []) = acc ++ [r.id]))
                  rw [hT] at TT
                  clear HS hg hT
                  have k0 := fun i => DB.out.cell i
                  go_wp2_with fail
                  refine (TT.out _ BA.out).mono ?_
                  rintro x w2 ⟨rfl, hb2⟩
                  have O2 := Lib.hid (OW.out.below hb2 (Nat.le_refl _))
                  have B2 := Lib.hid (BW.out.trans (hb2.mono BW.out.size))
                  have k1 := fun i => (DB.out.below hb2 DB.out.lt).cell i
                  have Z2 := Lib.hid (show w.heap.size ≤ w2.heap.size from B2.out.size)
                  clear hb2 k0
                  go_wp2_with (at_builtin; refine wpList_append_int1 rfl (.tmp 65) (.tmp 68) rfl w.heap.size u7 acc rfl (O2.out.alloc (.cells #[.int .i64 r.id] 3)) ⟨w2.heap.size, 0, none⟩ r.id rfl (newsI w2 3 r.id) (by have := HLN.out; omega) (by have := Z2.out; simp; omega) ?_; intro o4 w4 hown4 hb4 hg4)
                  have W4 := Lib.hid ((B2.out.alloc B2.out.size (.cells #[.int .i64 r.id] 3)).trans hb4)
                  clear hb4 hg4
                  go_wp2
                  go_roundw
                  case rel => exact ⟨k + 1, by omega, by go_num, by rw [HG.out]; exact hown4, W4.out⟩
                  case measure => simp [intOf]; omega
        · have td : decide (0 ≤ r.done) = false := by simpa using hn0
          have hg : P.mayGo now ret r = false := by rw [MG, td]; simp
          clear MG
          by_cases hp : 0 < ret
          · have tp : decide (0 < ret) = true := by simpa using hp
            have tm : decide (ret < 0) = false := by simp; omega
            by_cases hle : r.done ≤ now
            · have tl : decide (r.done ≤ now) = true := by simpa using hle
              cases hT : P.terminal r.state r.legs
              · have HG := Lib.hid (HS.out.trans (by rw [hg]; rfl : acc ++ (if P.mayGo now ret r = true then [r.id] else []) = acc ++ []))
                rw [hT] at TT
                clear HS hg hT
                have k0 := fun i => DB.out.cell i
                go_wp2_with fail
                refine (TT.out _ BA.out).mono ?_
                rintro x w2 ⟨rfl, hb2⟩
                have O2 := Lib.hid (OW.out.below hb2 (Nat.le_refl _))
                have B2 := Lib.hid (BW.out.trans (hb2.mono BW.out.size))
                have k1 := fun i => (DB.out.below hb2 DB.out.lt).cell i
                clear hb2 k0
                go_wp2
                go_roundw
                case rel => exact ⟨k + 1, by omega, by go_num, by rw [HG.out, List.append_nil]; exact O2.out, B2.out⟩
                case measure => simp [intOf]; omega
              · have HG := Lib.hid (HS.out.trans (by rw [hg]; rfl : acc ++ (if P.mayGo now ret r = true then [r.id] else []) = acc ++ []))
                rw [hT] at TT
                clear HS hg hT
                have k0 := fun i => DB.out.cell i
                go_wp2_with fail
                refine (TT.out _ BA.out).mono ?_
                rintro x w2 ⟨rfl, hb2⟩
                have O2 := Lib.hid (OW.out.below hb2 (Nat.le_refl _))
                have B2 := Lib.hid (BW.out.trans (hb2.mono BW.out.size))
                have k1 := fun i => (DB.out.below hb2 DB.out.lt).cell i
                clear hb2 k0
                go_wp2
                go_roundw
                case rel => exact ⟨k + 1, by omega, by go_num, by rw [HG.out, List.append_nil]; exact O2.out, B2.out⟩
                case measure => simp [intOf]; omega
            · have tl : decide (r.done ≤ now) = false := by simpa using hle
              cases hT : P.terminal r.state r.legs
              · have HG := Lib.hid (HS.out.trans (by rw [hg]; rfl : acc ++ (if P.mayGo now ret r = true then [r.id] else []) = acc ++ []))
                rw [hT] at TT
                clear HS hg hT
                have k0 := fun i => DB.out.cell i
                go_wp2_with fail
                refine (TT.out _ BA.out).mono ?_
                rintro x w2 ⟨rfl, hb2⟩
                have O2 := Lib.hid (OW.out.below hb2 (Nat.le_refl _))
                have B2 := Lib.hid (BW.out.trans (hb2.mono BW.out.size))
                have k1 := fun i => (DB.out.below hb2 DB.out.lt).cell i
                clear hb2 k0
                go_wp2
                go_roundw
                case rel => exact ⟨k + 1, by omega, by go_num, by rw [HG.out, List.append_nil]; exact O2.out, B2.out⟩
                case measure => simp [intOf]; omega
              · have HG := Lib.hid (HS.out.trans (by rw [hg]; rfl : acc ++ (if P.mayGo now ret r = true then [r.id] else []) = acc ++ []))
                rw [hT] at TT
                clear HS hg hT
                have k0 := fun i => DB.out.cell i
                go_wp2_with fail
                refine (TT.out _ BA.out).mono ?_
                rintro x w2 ⟨rfl, hb2⟩
                have O2 := Lib.hid (OW.out.below hb2 (Nat.le_refl _))
                have B2 := Lib.hid (BW.out.trans (hb2.mono BW.out.size))
                have k1 := fun i => (DB.out.below hb2 DB.out.lt).cell i
                clear hb2 k0
                go_wp2
                go_roundw
                case rel => exact ⟨k + 1, by omega, by go_num, by rw [HG.out, List.append_nil]; exact O2.out, B2.out⟩
                case measure => simp [intOf]; omega
          · have hm : ret < 0 := by omega
            have tp : decide (0 < ret) = false := by simpa using hp
            have tm : decide (ret < 0) = true := by simpa using hm
            by_cases hle : r.done ≤ now
            · have tl : decide (r.done ≤ now) = true := by simpa using hle
              cases hT : P.terminal r.state r.legs
              · have HG := Lib.hid (HS.out.trans (by rw [hg]; rfl : acc ++ (if P.mayGo now ret r = true then [r.id] else []) = acc ++ []))
                rw [hT] at TT
                clear HS hg hT
                have k0 := fun i => DB.out.cell i
                go_wp2_with fail
                refine (TT.out _ BA.out).mono ?_
                rintro x w2 ⟨rfl, hb2⟩
                have O2 := Lib.hid (OW.out.below hb2 (Nat.le_refl _))
                have B2 := Lib.hid (BW.out.trans (hb2.mono BW.out.size))
                have k1 := fun i => (DB.out.below hb2 DB.out.lt).cell i
                clear hb2 k0
                go_wp2
                go_roundw
                case rel => exact ⟨k + 1, by omega, by go_num, by rw [HG.out, List.append_nil]; exact O2.out, B2.out⟩
                case measure => simp [intOf]; omega
              · have HG := Lib.hid (HS.out.trans (by rw [hg]; rfl : acc ++ (if P.mayGo now ret r = true then [r.id] else []) = acc ++ []))
                rw [hT] at TT
                clear HS hg hT
                have k0 := fun i => DB.out.cell i
                go_wp2_with fail
                refine (TT.out _ BA.out).mono ?_
                rintro x w2 ⟨rfl, hb2⟩
                have O2 := Lib.hid (OW.out.below hb2 (Nat.le_refl _))
                have B2 := Lib.hid (BW.out.trans (hb2.mono BW.out.size))
                have k1 := fun i => (DB.out.below hb2 DB.out.lt).cell i
                clear hb2 k0
                go_wp2
                go_roundw
                case rel => exact ⟨k + 1, by omega, by go_num, by rw [HG.out, List.append_nil]; exact O2.out, B2.out⟩
                case measure => simp [intOf]; omega
            · have tl : decide (r.done ≤ now) = false := by simpa using hle
              cases hT : P.terminal r.state r.legs
              · have HG := Lib.hid (HS.out.trans (by rw [hg]; rfl : acc ++ (if P.mayGo now ret r = true then [r.id] else []) = acc ++ []))
                rw [hT] at TT
                clear HS hg hT
                have k0 := fun i => DB.out.cell i
                go_wp2_with fail
                refine (TT.out _ BA.out).mono ?_
                rintro x w2 ⟨rfl, hb2⟩
                have O2 := Lib.hid (OW.out.below hb2 (Nat.le_refl _))
                have B2 := Lib.hid (BW.out.trans (hb2.mono BW.out.size))
                have k1 := fun i => (DB.out.below hb2 DB.out.lt).cell i
                clear hb2 k0
                go_wp2
                go_roundw
                case rel => exact ⟨k + 1, by omega, by go_num, by rw [HG.out, List.append_nil]; exact O2.out, B2.out⟩
                case measure => simp [intOf]; omega
              · have HG := Lib.hid (HS.out.trans (by rw [hg]; rfl : acc ++ (if P.mayGo now ret r = true then [r.id] else []) = acc ++ []))
                rw [hT] at TT
                clear HS hg hT
                have k0 := fun i => DB.out.cell i
                go_wp2_with fail
                refine (TT.out _ BA.out).mono ?_
                rintro x w2 ⟨rfl, hb2⟩
                have O2 := Lib.hid (OW.out.below hb2 (Nat.le_refl _))
                have B2 := Lib.hid (BW.out.trans (hb2.mono BW.out.size))
                have k1 := fun i => (DB.out.below hb2 DB.out.lt).cell i
                clear hb2 k0
                go_wp2
                go_roundw
                case rel => exact ⟨k + 1, by omega, by go_num, by rw [HG.out, List.append_nil]; exact O2.out, B2.out⟩
                case measure => simp [intOf]; omega
    · have tk : decide ((k : Int) < (n : Int)) = false := by simp; omega
      have hkn : k = n := by omega
      have HN := Lib.hid (show P.due now ret (rs.take k) = P.due now ret rs from by rw [List.take_of_length_le (by have := H.out.len; omega)])
      have OW := Lib.hid hown
      have BW := Lib.hid hbel
      clear hkn hown hbel
      go_wp2
      go_ret
      rw [← HN.out]
      exact ⟨_, rfl, OW.out, BW.out⟩
end Go.Proofs.Ytjbhlojfmcldjab
