/- What prune.old and prune.Due return. -/
import Derived.Test.YtjbhlojfmcldjabRowsAt
import Derived.OpenShut
namespace Go.Proofs.Ytjbhlojfmcldjab
set_option linter.unusedVariables false
open Go.RowKit Go.BigFrame
set_option maxHeartbeats 400000 in
set_option maxRecDepth 20000 in
theorem old_any (dn now ret : Int) (w : World) (h0 : 0 ≤ dn) (h1 : dn ≤ 9223372036854775807) (h2 : -9223372036854775808 ≤ now) (h3 : now ≤ 9223372036854775807) (h4 : -9223372036854775808 ≤ ret) (h5 : ret ≤ 9223372036854775807) :
    Calls Try.prog 34 #[.int .i64 dn, .int .i64 now, .int .i64 ret] w fun e w' => e = .returned (.bool (P.old dn now ret)) ∧ w = w' := by
  by_cases c1 : ret < 0
  · have t1 : decide (ret < 0) = true := by simpa using c1
    have HP := Lib.hid (show P.old dn now ret = decide (dn + ret ≤ now) from by unfold P.old; rw [if_pos c1])
    go_enter Try.func34, Try.ntmps34
    go_wp2
    go_ret
    rw [HP.out]
    exact ⟨rfl, rfl⟩
  · have t1 : decide (ret < 0) = false := by simpa using c1
    by_cases c2 : now < 0
    · have t2 : decide (now < 0) = true := by simpa using c2
      have HP := Lib.hid (show P.old dn now ret = false from by unfold P.old; rw [if_neg c1, if_pos c2])
      go_enter Try.func34, Try.ntmps34
      go_wp2
      go_ret
      rw [HP.out]
      exact ⟨rfl, rfl⟩
    · have t2 : decide (now < 0) = false := by simpa using c2
      have HP := Lib.hid (show P.old dn now ret = decide (dn ≤ now - ret) from by unfold P.old; rw [if_neg c1, if_neg c2])
      go_enter Try.func34, Try.ntmps34
      go_wp2
      go_ret
      rw [HP.out]
      exact ⟨rfl, rfl⟩
namespace P
/-- Which tests of a row fail, in their order. -/
theorem mayGo_key (now ret : Int) (r : RowV) : ((ret != 0) = false ∧ mayGo now ret r = false) ∨ ((ret != 0) = true ∧ terminal r.state r.legs = false ∧ mayGo now ret r = false) ∨ ((ret != 0) = true ∧ terminal r.state r.legs = true ∧ ¬ 0 ≤ r.done ∧ mayGo now ret r = false)
    ∨ ((ret != 0) = true ∧ terminal r.state r.legs = true ∧ 0 ≤ r.done ∧ old r.done now ret = false ∧ mayGo now ret r = false) ∨ ((ret != 0) = true ∧ terminal r.state r.legs = true ∧ 0 ≤ r.done ∧ old r.done now ret = true ∧ mayGo now ret r = true) := by
  unfold mayGo
  cases (ret != 0) <;> cases terminal r.state r.legs <;> by_cases h : 0 ≤ r.done <;> cases old r.done now ret <;> simp [h]
end P
set_option maxRecDepth 100000 in
set_option maxHeartbeats 4000000 in
theorem due_any (A : Option Addr) (n c : Nat) (rs : List P.RowV) (now ret : Int) (B : Nat) (w : World)
    (h : RowsAt w B A n rs) (hB : B ≤ w.heap.size) (hn : n ≤ 1099511627776) (hd : ∀ r ∈ rs, (Lit.int .i64 r.done).wf = true) (h2 : -9223372036854775808 ≤ now) (h3 : now ≤ 9223372036854775807) (h4 : -9223372036854775808 ≤ ret) (h5 : ret ≤ 9223372036854775807) :
    Calls Try.prog 16 #[.slice A n c, .int .i64 now, .int .i64 ret] w (GivesI w (P.due now ret rs)) := by
  have H := Lib.hid h
  have HD := Lib.hid hd
  clear h hd
  go_enter Try.func16, Try.ntmps16
  go_wp2_with fail
  go_loopw [7, 12] (fun o x wr => ∃ (k : Nat), k ≤ n ∧ x = .int .i64 k ∧ OwnI wr w.heap.size o (P.due now ret (rs.take k)) ∧ Below w.heap.size w wr) (fun _ x _ => n - (intOf x).toNat)
  case atStart => exact ⟨0, by omega, rfl, OwnI.nil _ _, Below.refl _ _⟩
  case round =>
    obtain ⟨k, hk, rfl, hown, hbel⟩ := hrel
    by_cases hlt : k < n
    · obtain ⟨ad, r, rfl, hrb, hrk, hrl, hrm, hrc⟩ := (H.out.below (hbel.mono hB)).in_ hlt
      have HS := Lib.hid (P.due_step (now := now) (ret := ret) hrk)
      have hlen : (P.due now ret (rs.take k)).length ≤ k := by
        have := P.due_le now ret (rs.take k)
        rw [List.length_take] at this
        omega
      have HLN := Lib.hid hlen
      obtain ⟨c0, c1, c2, c3, c4, c5, c6, c7⟩ := hrc
      have hdw := bounds_i64 (HD.out r (List.mem_of_getElem? hrk))
      have hd1 : r.done ≤ 9223372036854775807 := by omega
      have DB := Lib.hid (Blk.new wr 33 #[.int .i64 r.id, .int .i64 r.run, .int .i64 r.time, .int .i64 r.state, .int .i64 r.done, .string r.raw, .int .i64 r.fault, .slice r.A r.m r.cp])
      have TT := Lib.hid (fun W (hW : Below wr.heap.size wr W) => terminal_any r.id r.run r.time r.state r.done r.fault r.raw r.A r.m r.cp r.legs _ W ((hrl.more (Nat.le_trans hB hbel.size)).below hW) hW.size hrm)
      have OW := Lib.hid (hown.alloc (.cells #[.int .i64 r.id, .int .i64 r.run, .int .i64 r.time, .int .i64 r.state, .int .i64 r.done, .string r.raw, .int .i64 r.fault, .slice r.A r.m r.cp] 33))
      have BW := Lib.hid (hbel.alloc hbel.size (.cells #[.int .i64 r.id, .int .i64 r.run, .int .i64 r.time, .int .i64 r.state, .int .i64 r.done, .string r.raw, .int .i64 r.fault, .slice r.A r.m r.cp] 33))
      have BA := Lib.hid ((Below.refl wr.heap.size wr).alloc (Nat.le_refl _) (.cells #[.int .i64 r.id, .int .i64 r.run, .int .i64 r.time, .int .i64 r.state, .int .i64 r.done, .string r.raw, .int .i64 r.fault, .slice r.A r.m r.cp] 33))
      clear hrk hlen hrl hown hbel hdw
      generalize P.due now ret (rs.take k) = acc at *
      rcases P.mayGo_key now ret r with ⟨t1, hg⟩ | ⟨t1, t2, hg⟩ | ⟨t1, t2, t3, hg⟩ | ⟨t1, t2, t3, t4, hg⟩ | ⟨t1, t2, t3, t4, hg⟩
      · have HG := Lib.hid (HS.out.trans (by rw [hg]; rfl : acc ++ (if P.mayGo now ret r = true then [r.id] else []) = acc ++ []))
        clear HS hg
        go_wp2
        go_roundw
        case rel => exact ⟨k + 1, by omega, by go_num, by rw [HG.out, List.append_nil]; exact OW.out, BW.out⟩
        case measure => simp [intOf]; omega
      · have HG := Lib.hid (HS.out.trans (by rw [hg]; rfl : acc ++ (if P.mayGo now ret r = true then [r.id] else []) = acc ++ []))
        rw [t2] at TT
        clear HS hg t2
        have k0 := fun i => DB.out.cell i
        go_wp2_with fail
        refine (TT.out _ BA.out).mono ?_
        rintro x w2 ⟨rfl, hb2⟩
        have O2 := Lib.hid (OW.out.below hb2 (Nat.le_refl _))
        have B2 := Lib.hid (BW.out.trans (hb2.mono BW.out.size))
        clear hb2 k0
        go_wp2
        go_roundw
        case rel => exact ⟨k + 1, by omega, by go_num, by rw [HG.out, List.append_nil]; exact O2.out, B2.out⟩
        case measure => simp [intOf]; omega
      · have HG := Lib.hid (HS.out.trans (by rw [hg]; rfl : acc ++ (if P.mayGo now ret r = true then [r.id] else []) = acc ++ []))
        rw [t2] at TT
        have t3' : decide (0 ≤ r.done) = false := by simpa using t3
        clear HS hg t2 t3
        have k0 := fun i => DB.out.cell i
        go_wp2_with fail
        refine (TT.out _ BA.out).mono ?_
        rintro x w2 ⟨rfl, hb2⟩
        have O2 := Lib.hid (OW.out.below hb2 (Nat.le_refl _))
        have B2 := Lib.hid (BW.out.trans (hb2.mono BW.out.size))
        have k1 := fun i => (DB.out.below hb2 DB.out.lt).cell i
        clear hb2 k0
        go_wp2
        go_roundw
        case rel => exact ⟨k + 1, by omega, by go_num, by rw [HG.out, List.append_nil]; exact O2.out, B2.out⟩
        case measure => simp [intOf]; omega
      · have HG := Lib.hid (HS.out.trans (by rw [hg]; rfl : acc ++ (if P.mayGo now ret r = true then [r.id] else []) = acc ++ []))
        rw [t2] at TT
        have t3' : decide (0 ≤ r.done) = true := by simpa using t3
        have OL := Lib.hid (fun W => old_any r.done now ret W t3 hd1 h2 h3 h4 h5)
        rw [t4] at OL
        clear HS hg t2 t4
        have k0 := fun i => DB.out.cell i
        go_wp2_with fail
        refine (TT.out _ BA.out).mono ?_
        rintro x w2 ⟨rfl, hb2⟩
        have O2 := Lib.hid (OW.out.below hb2 (Nat.le_refl _))
        have B2 := Lib.hid (BW.out.trans (hb2.mono BW.out.size))
        have k1 := fun i => (DB.out.below hb2 DB.out.lt).cell i
        clear hb2 k0
        go_wp2_with fail
        refine (OL.out _).mono ?_
        rintro x w3 ⟨rfl, rfl⟩
        go_wp2
        go_roundw
        case rel => exact ⟨k + 1, by omega, by go_num, by rw [HG.out, List.append_nil]; exact O2.out, B2.out⟩
        case measure => simp [intOf]; omega
      · have HG := Lib.hid (HS.out.trans (by rw [hg]; rfl : acc ++ (if P.mayGo now ret r = true then [r.id] else []) = acc ++ [r.id]))
        rw [t2] at TT
        have t3' : decide (0 ≤ r.done) = true := by simpa using t3
        have OL := Lib.hid (fun W => old_any r.done now ret W t3 hd1 h2 h3 h4 h5)
        rw [t4] at OL
        clear HS hg t2 t4
        have k0 := fun i => DB.out.cell i
        go_wp2_with fail
        refine (TT.out _ BA.out).mono ?_
        rintro x w2 ⟨rfl, hb2⟩
        have O2 := Lib.hid (OW.out.below hb2 (Nat.le_refl _))
        have B2 := Lib.hid (BW.out.trans (hb2.mono BW.out.size))
        have k1 := fun i => (DB.out.below hb2 DB.out.lt).cell i
        have Z2 := Lib.hid (show w.heap.size ≤ w2.heap.size from B2.out.size)
        clear hb2 k0
        go_wp2_with fail
        refine (OL.out _).mono ?_
        rintro x w3 ⟨rfl, rfl⟩
        go_wp2_with (at_builtin; refine wpList_append_int1 rfl (.tmp 34) (.tmp 37) rfl w.heap.size u7 acc rfl (O2.out.alloc (.cells #[.int .i64 r.id] 3)) ⟨w2.heap.size, 0, none⟩ r.id rfl (newsI w2 3 r.id) (by have := HLN.out; omega) (by have := Z2.out; simp; omega) ?_; intro o4 w4 hown4 hb4 hg4)
        have W4 := Lib.hid ((B2.out.alloc B2.out.size (.cells #[.int .i64 r.id] 3)).trans hb4)
        clear hb4 hg4
        go_wp2
        go_roundw
        case rel => exact ⟨k + 1, by omega, by go_num, by rw [HG.out]; exact hown4, W4.out⟩
        case measure => simp [intOf]; omega
    · have hkn : k = n := by omega
      have HN := Lib.hid (show P.due now ret (rs.take k) = P.due now ret rs from by rw [List.take_of_length_le (by have := H.out.len; omega)])
      have OW := Lib.hid hown
      have BW := Lib.hid hbel
      clear hkn hown hbel
      go_wp2
      go_ret
      rw [← HN.out]
      exact ⟨_, rfl, OW.out, BW.out⟩
end Go.Proofs.Ytjbhlojfmcldjab
