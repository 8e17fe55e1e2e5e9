/- Part F4 of the proof: the statement that is proved stands in the text that ends with its name. No conditions beyond the card's. -/
import Derived.Test.YtmabpnmnppfgaaaGreatDoorA9
import Derived.Test.YtmabpnmnppfgaaaGreatDoorG1
namespace Go.Proofs.YtmabpnmnppfgaaaGreatDoor
set_option linter.unusedVariables false
open Go Go.RowKit Go.BigFrame
set_option maxRecDepth 100000 in
set_option maxHeartbeats 4000000 in
theorem refIsName_any (s : ByteArray) (w : World) (hs : s.size ≤ 1000000) :
    Calls Tryz.prog 141 #[.string s] w fun e w' => e = .returned (.bool (Ad.isName s.data.toList)) ∧ w' = w := by
  by_cases h0 : s.size = 0
  · obtain rfl := text_empty h0
    go_enter Tryz.func141, Tryz.ntmps141
    go_wp2
    go_ret
    exact ⟨rfl, rfl⟩
  · have h0' : 0 < s.size := Nat.pos_of_ne_zero h0
    obtain ⟨r, hd⟩ : ∃ r, s.data.toList = (s[0]'h0') :: r := ⟨s.data.toList.drop 1, by
      have := List.drop_eq_getElem_cons (l := s.data.toList) (i := 0) (by simpa using Nat.pos_of_ne_zero h0)
      rw [List.drop_zero] at this
      exact this⟩
    have hlen : s.data.toList.length = s.size := by simp
    have HN := Lib.hid (show Ad.isName s.data.toList = (decide (s.size ≤ 32) && Ad.letter (s[0]'h0') && decide (Ad.run Ad.nameC s.data.toList = s.size)) by
      have e : ∀ l : Ad.Bs, l = (s[0]'h0') :: r → Ad.isName l = (decide (l.length ≤ 32) && Ad.letter (s[0]'h0') && decide (Ad.run Ad.nameC l = l.length)) := fun l h => by
        subst h
        rfl
      rw [e _ hd, hlen])
    have hi1 : ∀ W : World, (Instr.index 9 (.string s) (.int .i64 0)).run Tryz.prog W = .ok (.int .u8 ((s[0]'h0').toNat : Int)) W := fun W => idx_atu s 0 (by omega) rfl W
    have K1 := Lib.hid (fun W => refLetter_any (s[0]'h0') W)
    have h1 : ¬ ((s.size : Int) < 1) := by omega
    clear hd hlen
    by_cases h32 : s.size ≤ 32
    · have g32 : ¬ (32 : Int) < (s.size : Int) := by omega
      cases hl : Ad.letter (s[0]'h0') with
      | false =>
        rw [hl] at K1 HN
        have HX := Lib.hid (show Ad.isName s.data.toList = false from by rw [HN.out]; simp)
        clear HN hl
        generalize (s[0]'h0') = c at *
        go_enter Tryz.func141, Tryz.ntmps141
        go_wp2_with (go_at_call 206; refine (K1.out _).mono ?_; rintro e w' ⟨rfl, rfl⟩)
        go_ret
        rw [HX.out]
        exact ⟨rfl, rfl⟩
      | true =>
        rw [hl] at K1 HN
        have HBad := Lib.hid (show ∀ (i : Nat) (hi : i < s.size), Ad.nameC s[i] = false → Ad.isName s.data.toList = false from fun i hi h => by
          rw [HN.out, decide_eq_false (p := Ad.run Ad.nameC s.data.toList = s.size), Bool.and_false]
          intro hr
          have ha := Ad.run_eq_len (p := Ad.nameC) (l := s.data.toList) (by rw [hr]; simp)
          rw [List.all_eq_true] at ha
          have hm : s[i] ∈ s.data.toList := by
            have : s[i] = s.data.toList[i]'(by simpa using hi) := rfl
            rw [this]; exact List.getElem_mem _
          rw [ha _ hm] at h
          cases h)
        have HOk := Lib.hid (show (∀ (i : Nat) (hi : i < s.size), Ad.nameC s[i] = true) → Ad.isName s.data.toList = true from fun h => by
          have hr : Ad.run Ad.nameC s.data.toList = s.size := by
            have := Ad.run_all (p := Ad.nameC) s.data.toList [] (by
              rw [List.all_eq_true]
              intro c hc
              obtain ⟨i, hi⟩ := List.getElem?_of_mem hc
              obtain ⟨hi2, hi3⟩ := List.getElem?_eq_some_iff.1 hi
              rw [← hi3]
              exact h i (by simpa using hi2)) (fun c r' h => by cases h)
            rw [List.append_nil] at this
            rw [this]
            simp
          rw [HN.out, hr, decide_eq_true h32]
          simp)
        clear HN hl h32
        generalize Ad.isName s.data.toList = res at *
        generalize (s[0]'h0') = c0 at *
        go_enter Tryz.func141, Tryz.ntmps141
        go_wp2_with (go_at_call 206; refine (K1.out _).mono ?_; rintro e w' ⟨rfl, rfl⟩)
        go_loopw [3] (fun x wr => ∃ i : Nat, x = .int .i64 i ∧ i ≤ s.size ∧ wr = w' ∧ RowKit.Hid (∀ (j : Nat) (hj : j < s.size), j < i → Ad.nameC s[j] = true)) (fun x _ => s.size - (intOf x).toNat)
        case atStart => exact ⟨0, rfl, by omega, rfl, Lib.hid (fun j _ hj => absurd hj (by omega))⟩
        case round =>
          obtain ⟨i, rfl, hk, rfl, HALL⟩ := hrel
          by_cases hlt : i < s.size
          · have hi2 : ∀ W : World, (Instr.index 9 (.string s) (.int .i64 (i : Int))).run Tryz.prog W = .ok (.int .u8 (s[i].toNat : Int)) W := fun W => idx_atu s i hlt rfl W
            have L1 := Lib.hid (refLetter_any s[i] wr)
            have L2 := Lib.hid (refDigitB_any s[i] wr)
            have HS2 := Lib.hid (HBad.out i hlt)
            have HALL2 := Lib.hid (show Ad.nameC s[i] = true → ∀ (j : Nat) (hj : j < s.size), j < i + 1 → Ad.nameC s[j] = true from fun h j hj h2 => by
              rcases Nat.lt_or_ge j i with h3 | h3
              · exact HALL.out j hj h3
              · obtain rfl : j = i := by omega
                exact h)
            rw [show Ad.nameC s[i] = (Ad.letter s[i] || Ad.digit s[i] || decide (s[i].toNat = 95)) from rfl] at HS2 HALL2
            have hb := s[i].toNat_lt
            clear HALL HBad HOk
            generalize Ad.letter s[i] = r1 at *
            generalize Ad.digit s[i] = r2 at *
            obtain ⟨b, hb95⟩ : ∃ b, ((s[i].toNat : Int) != 95) = b := ⟨_, rfl⟩
            have hd : decide (s[i].toNat = 95) = !b := by
              rw [← hb95]
              by_cases h : s[i].toNat = 95
              · rw [h]; rfl
              · rw [decide_eq_false h, show ((s[i].toNat : Int) != 95) = true by rw [bne_iff_ne]; omega]; rfl
            rw [hd] at HS2 HALL2
            clear hd
            generalize s[i].toNat = d at *
            cases r1 <;> cases r2 <;> cases b
            all_goals
              go_wp2_with (first | (go_at_call 206; refine L1.out.mono ?_; rintro e w' ⟨rfl, rfl⟩) | (go_at_call 208; refine L2.out.mono ?_; rintro e w' ⟨rfl, rfl⟩))
              first
              | (go_roundw
                 case rel => exact ⟨i + 1, by go_num, by omega, by trivial, Lib.hid (HALL2.out (by first | rfl | trivial))⟩
                 case measure => simp [intOf]; omega)
              | (go_ret
                 exact ⟨by rw [HS2.out (by first | rfl | trivial)]; rfl, rfl⟩)
          · obtain rfl : i = s.size := by omega
            have HX := Lib.hid (HOk.out fun j hj => HALL.out j hj hj)
            clear HOk HBad HALL
            go_wp2_with fail
            go_ret
            exact ⟨by rw [HX.out]; rfl, rfl⟩
    · have HX := Lib.hid (show Ad.isName s.data.toList = false from by rw [HN.out, decide_eq_false h32]; rfl)
      have g32 : (32 : Int) < (s.size : Int) := by omega
      clear HN K1 h32
      generalize (s[0]'h0') = c at *
      go_enter Tryz.func141, Tryz.ntmps141
      go_wp2_with fail
      go_ret
      rw [HX.out]
      exact ⟨rfl, rfl⟩
set_option maxRecDepth 100000 in
set_option maxHeartbeats 4000000 in
theorem refQuote_any (s : ByteArray) (w : World) (hs : s.size ≤ 1000000) :
    Calls Tryz.prog 29 #[.string s] w fun e w' => e = .returned (.string ⟨(Ad.quote s.data.toList).toArray⟩) ∧ Below w.heap.size w w' := by
  have Hown := Lib.hid (OwnB.lit w [34] (by simp [maxLen]))
  go_enter Tryz.func29, Tryz.ntmps29
  go_wp2_with fail
  go_loopw [3, 4] (fun v x wr => ∃ (k : Nat) (out : Ad.Bs), x = .int .i64 k ∧ k ≤ s.size ∧ out.length ≤ 4 * k + 1 ∧ RowKit.Hid (out = 34 :: Ad.quoteL (s.data.toList.take k)) ∧ OwnB wr w.heap.size v out ∧ Below w.heap.size w wr) (fun _ x _ => s.size - (intOf x).toNat)
  case atStart => exact ⟨0, [34], rfl, by omega, by simp, Lib.hid (by simp [Ad.quoteL]), Hown.out, (Below.refl _ w).alloc (Nat.le_refl _) _⟩
  case round =>
    obtain ⟨k, out, rfl, hk, hol, HO, hown, hbel⟩ := hrel
    by_cases hlt : k < s.size
    · have hi1 : ∀ W : World, (Instr.index 9 (.string s) (.int .i64 (k : Int))).run Tryz.prog W = .ok (.int .u8 (s[k].toNat : Int)) W := fun W => idx_atu s k hlt rfl W
      have hsn := take_snoc s k hlt
      have HSN := Lib.hid (show 34 :: Ad.quoteL (s.data.toList.take (k + 1)) = out ++ Ad.quoteB s[k] from by rw [hsn, Ad.quoteL_snoc, HO.out]; rfl)
      have hex : (s.extract k (k + 1)).data.toList = [s[k]] := by
        rw [ext_mid, List.drop_eq_getElem_cons (by simpa using hlt)]
        rfl
      have hc := s[k].toNat_lt
      have KH := fun W => refHex_any (s.extract k (k + 1)) W (by rw [ByteArray.size_extract]; omega)
      rw [hex] at KH
      clear hsn hex HO
      generalize s[k] = c at *
      by_cases hq : c.toNat = 34 ∨ c.toNat = 92
      · have HSN := Lib.hid (show 34 :: Ad.quoteL (s.data.toList.take (k + 1)) = out ++ [92, c] from by rw [HSN.out]; unfold Ad.quoteB; rw [if_pos hq])
        obtain ⟨x1, hx1⟩ : ∃ x, ((c.toNat : Int) == 34) = x := ⟨_, rfl⟩
        obtain ⟨x2, hx2⟩ : ∃ x, ((c.toNat : Int) == 92) = x := ⟨_, rfl⟩
        have hxx : x1 = true ∨ (x1 = false ∧ x2 = true) := by
          rcases hq with h | h
          · left; rw [← hx1, h]; rfl
          · right; exact ⟨by rw [← hx1, h]; rfl, by rw [← hx2, h]; rfl⟩
        clear hq KH
        rcases hxx with rfl | ⟨rfl, rfl⟩
        all_goals
          go_wp2_with (at_builtin; refine wpList_append_bytes rfl (.tmp 27) (.tmp 29) rfl w.heap.size _ out rfl (hown.alloc _) ⟨wr.heap.size, 0, none⟩ 2 2 [92, c] rfl rfl (newsU8 wr 5 [92, c]) (by simp; omega) (by have := hbel.size; simp; omega) ?_; intro o4 w4 hown4 hb4)
          have Hb4 := Lib.hid (show Below w.heap.size w w4 from (hbel.alloc hbel.size _).trans hb4)
          clear hb4 hbel hown hi1
          go_wp2_with fail
          go_roundw
          case rel => exact ⟨k + 1, out ++ [92, c], by go_num, by omega, by simp; omega, Lib.hid HSN.out.symm, hown4, Hb4.out⟩
          case measure => simp [intOf]; omega
      · have y1 : ((c.toNat : Int) == 34) = false := by rw [beq_eq_false_iff_ne]; omega
        have y2 : ((c.toNat : Int) == 92) = false := by rw [beq_eq_false_iff_ne]; omega
        by_cases hp : 32 ≤ c.toNat ∧ c.toNat ≤ 126
        · have HSN := Lib.hid (show 34 :: Ad.quoteL (s.data.toList.take (k + 1)) = out ++ [c] from by rw [HSN.out]; unfold Ad.quoteB; rw [if_neg hq, if_pos hp])
          have z1 : ¬ c.toNat < 32 := by omega
          have z2 : ¬ 126 < c.toNat := by omega
          clear hq KH hp
          go_wp2_with (at_builtin; refine wpList_append_bytes rfl (.tmp 16) (.tmp 18) rfl w.heap.size _ out rfl (hown.alloc _) ⟨wr.heap.size, 0, none⟩ 1 1 [c] rfl rfl (newsU8 wr 5 [c]) (by simp; omega) (by have := hbel.size; simp; omega) ?_; intro o4 w4 hown4 hb4)
          have Hb4 := Lib.hid (show Below w.heap.size w w4 from (hbel.alloc hbel.size _).trans hb4)
          clear hb4 hbel hown hi1
          go_wp2_with fail
          go_roundw
          case rel => exact ⟨k + 1, out ++ [c], by go_num, by omega, by simp; omega, Lib.hid HSN.out.symm, hown4, Hb4.out⟩
          case measure => simp [intOf]; omega
        · have HSN := Lib.hid (show 34 :: Ad.quoteL (s.data.toList.take (k + 1)) = out ++ [92, 120] ++ P.hex [c] from by rw [HSN.out]; unfold Ad.quoteB; rw [if_neg hq, if_neg hp]; simp [P.hex])
          have hhl : (P.hex [c]).length = 2 := by rw [P.hex_length]; rfl
          have HHL := Lib.hid hhl
          generalize P.hex [c] = hx at *
          have KH := Lib.hid KH
          clear hq hhl
          rcases (by omega : c.toNat < 32 ∨ (¬ c.toNat < 32 ∧ 126 < c.toNat)) with h | ⟨h, h'⟩
          all_goals
            clear hp
            go_wp2_with (at_builtin; refine wpList_append_bytes rfl (.tmp 38) (.tmp 39) rfl w.heap.size _ out rfl (hown.alloc _) ⟨wr.heap.size, 0, none⟩ 2 2 [92, 120] rfl rfl (newsU8 wr 5 [92, 120]) (by simp; omega) (by have := hbel.size; simp; omega) ?_; intro o4 w4 hown4 hb4)
            have Hb4 := Lib.hid (show Below w.heap.size w w4 from (hbel.alloc hbel.size _).trans hb4)
            clear hb4 hbel hown hi1
            go_wp2_with fail
            refine (KH.out _).mono ?_
            rintro e w5 ⟨rfl, hb5⟩
            have hown5 := hown4.below hb5 (Nat.le_refl _)
            have hbel5 := Hb4.out.trans (hb5.mono Hb4.out.size)
            clear hown4 Hb4 hb5
            go_wp2_with (at_builtin; refine wpList_append_str rfl (.tmp 41) (.tmp 47) rfl w.heap.size _ (out ++ [92, 120]) rfl hown5 ⟨hx.toArray⟩ rfl (by have := HHL.out; show (out ++ [92, 120]).length + hx.length ≤ _; simp; omega) hbel5.size ?_; intro o6 w6 hown6 hb6)
            have Hb6 := Lib.hid (show Below w.heap.size w w6 from hbel5.trans hb6)
            clear hb6 hbel5 hown5
            go_wp2_with fail
            go_roundw
            case rel => exact ⟨k + 1, out ++ [92, 120] ++ hx, by go_num, by omega, by have := HHL.out; simp; omega, Lib.hid HSN.out.symm, hown6, Hb6.out⟩
            case measure => simp [intOf]; omega
    · obtain rfl : k = s.size := by omega
      have HQ := Lib.hid (show Ad.quote s.data.toList = out ++ [34] from by
        rw [HO.out, List.take_of_length_le (by simp)]
        rfl)
      clear HO
      go_wp2_with (at_builtin; refine wpList_append_bytes rfl (.tmp 49) (.tmp 50) rfl w.heap.size _ out rfl (hown.alloc _) ⟨wr.heap.size, 0, none⟩ 1 1 [34] rfl rfl (newsU8 wr 5 [34]) (by simp; omega) (by have := hbel.size; simp; omega) ?_; intro o4 w4 hown4 hb4; have Hb4 := Lib.hid (show Below w.heap.size w w4 from (hbel.alloc hbel.size _).trans hb4); have hst := hown4.string; clear hb4 hbel hown hown4)
      go_ret
      rw [HQ.out]
      exact ⟨rfl, Hb4.out⟩
set_option maxRecDepth 100000 in
theorem nameText_any (s : ByteArray) (w : World) (hs : s.size ≤ 1000000) :
    Calls Tryz.prog 30 #[.string s] w fun e w' => e = .returned (.string ⟨(Ad.nameW s.data.toList).toArray⟩) ∧ Below w.heap.size w w' := by
  have K1 := fun W => refIsName_any s W hs
  have K2 := Lib.hid (fun W => refQuote_any s W hs)
  cases hn : Ad.isName s.data.toList with
  | true =>
    rw [hn] at K1
    have HX := Lib.hid (show (⟨(Ad.nameW s.data.toList).toArray⟩ : ByteArray) = s from by unfold Ad.nameW; rw [if_pos hn, bytes_back])
    have K1 := Lib.hid K1
    clear hn
    go_enter Tryz.func30, Tryz.ntmps30
    go_wp2_with (go_at_call 141; refine (K1.out _).mono ?_; rintro e w' ⟨rfl, rfl⟩)
    go_ret
    rw [HX.out]
    exact ⟨rfl, Below.refl _ _⟩
  | false =>
    rw [hn] at K1
    have HX := Lib.hid (show Ad.nameW s.data.toList = Ad.quote s.data.toList from by unfold Ad.nameW; rw [if_neg (by rw [hn]; simp)])
    have K1 := Lib.hid K1
    clear hn
    go_enter Tryz.func30, Tryz.ntmps30
    go_wp2_with (go_at_call 141; refine (K1.out _).mono ?_; rintro e w' ⟨rfl, rfl⟩)
    refine (K2.out _).mono ?_
    rintro e w2 ⟨rfl, hb2⟩
    go_wp2_with fail
    go_ret
    rw [HX.out]
    exact ⟨rfl, hb2⟩
end Go.Proofs.YtmabpnmnppfgaaaGreatDoor
namespace Go.Proofs.YtmabpnmnppfgaaaGreatDoor
set_option linter.unusedVariables false
open Go Go.RowKit Go.BigFrame
namespace Ad
def wantS : Option Shape → ByteArray × Bool
  | none => (⟨#[]⟩, false)
  | some (true, _, _) => (⟨#[84]⟩, true)
  | some (false, false, _) => (⟨#[]⟩, true)
  | some (false, true, false) => (⟨#[78]⟩, true)
  | some (false, true, true) => (⟨#[78, 35]⟩, true)
theorem shape_none (x : ByteArray) (h : ∀ p ∈ shapeL, p.1 ≠ x) : shapeF x.data.toList = none := by
  unfold shapeF Dk.get
  rw [bytes_back, List.find?_eq_none.2]
  · rfl
  · intro p hp
    simpa using h p hp
end Ad
theorem text_other {x : ByteArray} {l : List UInt8} (h : x ≠ ⟨l.toArray⟩) : (x.toList == l) = false := by
  rw [beq_eq_false_iff_ne, ByteArray.toList_eq]
  intro h2
  exact h (bytes_eq h2)
set_option maxRecDepth 100000 in
set_option maxHeartbeats 4000000 in
theorem wants_any (x : ByteArray) (w : World) :
    Calls Tryz.prog 20 #[.string x] w fun e w' => e = .returned (.tuple #[.string (Ad.wantS (Ad.shapeF x.data.toList)).1, .bool (Ad.wantS (Ad.shapeF x.data.toList)).2]) ∧ w' = w := by
  by_cases k1 : x = ⟨#[108, 111, 97, 100]⟩
  rotate_left
  by_cases k2 : x = ⟨#[99, 111, 110, 102]⟩
  rotate_left
  by_cases k3 : x = ⟨#[108, 105, 115, 116]⟩
  rotate_left
  by_cases k4 : x = ⟨#[100, 101, 112, 108, 111, 121]⟩
  rotate_left
  by_cases k5 : x = ⟨#[117, 110, 100, 101, 112, 108, 111, 121]⟩
  rotate_left
  by_cases k6 : x = ⟨#[105, 100, 115]⟩
  rotate_left
  by_cases k7 : x = ⟨#[99, 111, 117, 110, 116, 115]⟩
  rotate_left
  by_cases k8 : x = ⟨#[115, 104, 111, 119]⟩
  rotate_left
  by_cases k9 : x = ⟨#[114, 101, 112, 114, 111, 99, 101, 115, 115]⟩
  rotate_left
  by_cases k10 : x = ⟨#[114, 97, 119]⟩
  rotate_left
  · have HN := Lib.hid (show Ad.shapeF x.data.toList = none from Ad.shape_none x fun p hp => by
      simp only [Ad.shapeL, List.mem_cons, List.mem_nil_iff, or_false] at hp
      rcases hp with rfl | rfl | rfl | rfl | rfl | rfl | rfl | rfl | rfl | rfl
      all_goals (intro h; first | exact k1 h.symm | exact k2 h.symm | exact k3 h.symm | exact k4 h.symm | exact k5 h.symm | exact k6 h.symm | exact k7 h.symm | exact k8 h.symm | exact k9 h.symm | exact k10 h.symm))
    have t1 := text_other k1
    have t2 := text_other k2
    have t3 := text_other k3
    have t4 := text_other k4
    have t5 := text_other k5
    have t6 := text_other k6
    have t7 := text_other k7
    have t8 := text_other k8
    have t9 := text_other k9
    have t10 := text_other k10
    clear k1 k2 k3 k4 k5 k6 k7 k8 k9 k10
    go_enter Tryz.func20, Tryz.ntmps20
    go_wp2_with fail
    go_ret2
    rw [HN.out]
    exact ⟨rfl, rfl⟩
  all_goals
    subst x
    go_enter Tryz.func20, Tryz.ntmps20
    go_wp2_with fail
    go_ret2
    exact ⟨rfl, rfl⟩
end Go.Proofs.YtmabpnmnppfgaaaGreatDoor
