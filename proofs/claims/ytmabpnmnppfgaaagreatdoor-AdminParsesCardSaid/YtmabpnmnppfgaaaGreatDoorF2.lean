/- Part F2 of the proof: the statement that is proved stands in the text that ends with its name. No conditions beyond the card's. -/
import Derived.Test.YtmabpnmnppfgaaaGreatDoorA4
import Derived.Test.YtmabpnmnppfgaaaGreatDoorE1
import Derived.ChangeAlike
namespace Go.Proofs.YtmabpnmnppfgaaaGreatDoor
set_option linter.unusedVariables false
open Go Go.RowKit Go.BigFrame
def StepOut (x : Ad.Bs × Bool) (v : Ending) : Prop :=
  ∃ n : Int, (x.2 = true ∧ v = .returned (.tuple #[.int .i64 n, .string ⟨#[]⟩, .bool false])) ∨ (x.2 = false ∧ v = .returned (.tuple #[.int .i64 n, .string ⟨x.1.toArray⟩, .bool true]))
theorem StepOut.bad {x : Ad.Bs × Bool} (h : x.2 = true) : StepOut x (.returned (.tuple #[.int .i64 0, .string ⟨#[]⟩, .bool false])) := ⟨0, .inl ⟨h, rfl⟩⟩
theorem StepOut.good {x : Ad.Bs × Bool} (n : Int) {t : ByteArray} (h : x.2 = false) (ht : t.data.toList = x.1) : StepOut x (.returned (.tuple #[.int .i64 n, .string t, .bool true])) :=
  ⟨n, .inr ⟨h, by rw [← ht, bytes_back]⟩⟩
namespace Ad
theorem prefix1 (c : UInt8) (l : Bs) : Lib.hasPrefix l [c] = match l with | [] => false | a :: _ => a == c := by
  cases l with
  | nil => rfl
  | cons a r =>
    show List.isPrefixOf [c] (a :: r) = (a == c)
    simp only [List.isPrefixOf, Bool.and_true]
    exact Bool.beq_comm
theorem numR_off (c : UInt8) (e l : Bs) (h : Lib.hasPrefix l [c] = false) : numR [c] e l false = (l, false) := by
  unfold numR
  rw [h]
  rfl
theorem numR_on (c : UInt8) (e r : Bs) (k : Nat) (hk : run digit r = k) : numR [c] e (c :: r) false = (Lib.trimPrefix (r.drop k) e, !P.numOk (r.take k) || ((decide (P.numV (r.take k) < 1) || decide (200 < P.numV (r.take k))) || !Lib.hasPrefix (r.drop k) e)) := by
  have ht : Lib.trimPrefix (c :: r) [c] = r := by
    unfold Lib.trimPrefix
    have h : Lib.hasPrefix (c :: r) [c] = true := by rw [prefix1]; simp
    rw [h]
    rfl
  unfold numR
  rw [ht, hk, if_pos (by rw [prefix1]; simp)]
  simp
theorem trim_none (l : Bs) : Lib.trimPrefix l [] = l := by
  unfold Lib.trimPrefix
  split <;> simp
theorem prefix_none (l : Bs) : Lib.hasPrefix l [] = true := by
  unfold Lib.hasPrefix
  simp
end Ad
set_option maxRecDepth 100000 in
set_option maxHeartbeats 4000000 in
theorem refStep_any (s : ByteArray) (c : UInt8) (e : Ad.Bs) (hc : (c = 91 ∧ e = [93]) ∨ ((c = 45 ∨ c = 46) ∧ e = [])) (w : World) (hs : s.size ≤ 1000000) :
    Calls Tryz.prog 271 #[.string s, .int .u8 (c.toNat : Int)] w fun v w' => StepOut (Ad.numR [c] e s.data.toList false) v ∧ Below w.heap.size w w' := by
  by_cases h0 : s.size = 0
  · obtain rfl := text_empty h0
    have HX := Lib.hid (Ad.numR_off c e [] rfl)
    generalize c.toNat = cn
    clear hc
    go_enter Tryz.func271, Tryz.ntmps271
    go_wp2_with fail
    go_ret3
    refine ⟨?_, Below.refl _ _⟩
    rw [HX.out]
    exact StepOut.good 1 rfl rfl
  · have hne := text_ne h0
    have h0' : 0 < s.size := by omega
    have hd : s.data.toList = s[0] :: s.data.toList.drop 1 := by
      have := List.drop_eq_getElem_cons (l := s.data.toList) (i := 0) (by simpa using h0')
      rw [List.drop_zero] at this
      exact this
    have hi0 : ∀ W : World, (Instr.index 9 (.string s) (.int .i64 0)).run Tryz.prog W = .ok (.int .u8 (s[0].toNat : Int)) W := fun W => idx_atu s 0 h0' rfl W
    by_cases hq : s[0] = c
    · have q1 : ((s[0].toNat : Int) != (c.toNat : Int)) = false := by rw [hq]; simp
      have HNum := Lib.hid (show ∀ i : Nat, 1 ≤ i → Ad.run Ad.digit (s.data.toList.drop 1) = i - 1 → Ad.numR [c] e s.data.toList false = (Lib.trimPrefix (s.extract i s.size).data.toList e, !P.numOk (s.extract 1 i).data.toList || ((decide (P.numV (s.extract 1 i).data.toList < 1) || decide (200 < P.numV (s.extract 1 i).data.toList)) || !Lib.hasPrefix (s.extract i s.size).data.toList e)) from fun i hi hr => by
        have h1 := Ad.numR_on c e (s.data.toList.drop 1) (i - 1) hr
        rw [← hq, ← hd, hq] at h1
        rw [h1, ext_end, show (s.extract 1 i) = s.extract 1 (1 + (i - 1)) by rw [show 1 + (i - 1) = i by omega], ext_mid, List.drop_drop, show 1 + (i - 1) = i by omega])
      have HStopD := Lib.hid (show ∀ i, 1 ≤ i → (∀ j, j < i - 1 → ∃ c, (s.data.toList.drop 1)[j]? = some c ∧ Ad.digit c = true) → (∀ c, (s.data.toList.drop 1)[i - 1]? = some c → Ad.digit c = false) → Ad.run Ad.digit (s.data.toList.drop 1) = i - 1 from fun i hi hall h => by
        have h1 := Ad.run_drop Ad.digit (s.data.toList.drop 1) (i - 1) hall
        cases hc : (s.data.toList.drop 1)[i - 1]? with
        | none =>
          rw [List.drop_eq_nil_of_le (List.getElem?_eq_none_iff.1 hc)] at h1
          exact h1
        | some c =>
          rw [Ad.run_stop Ad.digit (l := (s.data.toList.drop 1).drop (i - 1)) (c := c) (by rw [List.getElem?_drop]; exact hc) (h c hc)] at h1
          exact h1)
      generalize hsc : s[0].toNat = sc at *
      clear hd hq
      generalize Ad.numR [c] e s.data.toList false = X at *
      have HC := Lib.hid hc
      clear hc hsc
      obtain ⟨cn, hcn⟩ : ∃ cn, cn = c.toNat := ⟨_, rfl⟩
      rw [← hcn] at q1 ⊢
      have HCN := Lib.hid hcn
      clear hcn
      go_enter Tryz.func271, Tryz.ntmps271
      go_wp2_with fail
      go_loopw [7] (fun x wr => ∃ i : Nat, x = .int .i64 i ∧ 1 ≤ i ∧ i ≤ s.size ∧ wr = w ∧ RowKit.Hid (∀ j, j < i - 1 → ∃ c, (s.data.toList.drop 1)[j]? = some c ∧ Ad.digit c = true)) (fun x _ => s.size - (intOf x).toNat)
      case atStart => exact ⟨1, rfl, Nat.le_refl _, by omega, rfl, Lib.hid (fun j hj => absurd hj (by omega))⟩
      case round =>
        obtain ⟨i, rfl, hi1, hk, rfl, HALL⟩ := hrel
        have HStop := Lib.hid (HStopD.out i hi1 HALL.out)
        have KN := refNumber_any (s.extract 1 i) wr (by rw [ByteArray.size_extract]; unfold maxLen; omega)
        have HEnd := Lib.hid (HNum.out i hi1)
        unfold P.numE at KN
        by_cases hlt : i < s.size
        · have hget : (s.data.toList.drop 1)[i - 1]? = some s[i] := by
            rw [List.getElem?_drop, show 1 + (i - 1) = i by omega, List.getElem?_eq_getElem (by simpa using hlt)]
            rfl
          have HALL2 := Lib.hid (show Ad.digit s[i] = true → ∀ j, j < i + 1 - 1 → ∃ c, (s.data.toList.drop 1)[j]? = some c ∧ Ad.digit c = true from fun h j hj => by
            rcases Nat.lt_or_ge j (i - 1) with h2 | h2
            · exact HALL.out j h2
            · obtain rfl : j = i - 1 := by omega
              exact ⟨_, hget, h⟩)
          have HStop2 := Lib.hid (show Ad.digit s[i] = false → Ad.run Ad.digit (s.data.toList.drop 1) = i - 1 from fun h => HStop.out fun c hc => by
            rw [hget] at hc
            cases hc
            exact h)
          have hix : ∀ W : World, (Instr.index 9 (.string s) (.int .i64 (i : Int))).run Tryz.prog W = .ok (.int .u8 (s[i].toNat : Int)) W := fun W => idx_atu s i hlt rfl W
          have hdi : Ad.digit s[i] = decide (48 ≤ s[i].toNat ∧ s[i].toNat ≤ 57) := rfl
          have hcl : Lib.hasPrefix (s.extract i s.size).data.toList [93] = (s[i] == 93) := by
            rw [ext_end, List.drop_eq_getElem_cons (by simpa using hlt), Ad.prefix1]
            rfl
          have htr : s[i] = 93 → Lib.trimPrefix (s.extract i s.size).data.toList [93] = (s.extract (i + 1) s.size).data.toList := fun h => by
            unfold Lib.trimPrefix
            rw [hcl, h]
            simp only [beq_self_eq_true, if_true]
            rw [ext_end, ext_end]
            simp
          have HCL := Lib.hid hcl
          have HTR := Lib.hid htr
          have hby := s[i].toNat_lt
          clear hget hcl htr
          cases hdg : Ad.digit s[i] with
          | true =>
            have HR := Lib.hid (HALL2.out hdg)
            rw [hdg] at hdi
            replace hdi := of_decide_eq_true hdi.symm
            obtain ⟨e1, e2⟩ := hdi
            clear hdg HALL HALL2 HStop2 HStop HCL HTR HEnd KN
            generalize s[i] = d at *
            go_wp2_with fail
            go_roundw
            case rel => exact ⟨i + 1, by go_num, by omega, by omega, by trivial, HR⟩
            case measure => simp [intOf]; omega
          | false =>
            have HE := Lib.hid (HEnd.out (HStop2.out hdg))
            rw [hdg] at hdi
            replace hdi := of_decide_eq_false hdi.symm
            clear hdg HALL HALL2 HStop2 HStop HEnd
            have h93 : ((s[i].toNat : Int) != 93) = !(s[i] == 93) := by
              by_cases h : s[i] = 93
              · rw [h]; rfl
              · have h2 : s[i].toNat ≠ 93 := fun h3 => h (UInt8.toNat_inj.1 h3)
                rw [show (s[i] == 93) = false by simpa using h, show ((s[i].toNat : Int) != 93) = true by rw [bne_iff_ne]; omega]
                rfl
            obtain ⟨b9, hb9⟩ : ∃ b, (s[i] == 93) = b := ⟨_, rfl⟩
            rw [hb9] at HCL h93
            have HTR := Lib.hid (show b9 = true → Lib.trimPrefix (s.extract i s.size).data.toList [93] = (s.extract (i + 1) s.size).data.toList from fun h => HTR.out (by rw [h] at hb9; exact eq_of_beq hb9))
            clear hb9
            generalize P.numV (s.extract 1 i).data.toList = v at *
            generalize P.numOk (s.extract 1 i).data.toList = ok at *
            generalize s[i].toNat = d at *
            cases ok with
            | false =>
              have HX := Lib.hid (show X.2 = true from by rw [HE.out]; rfl)
              have KN := Lib.hid KN
              clear HE HCL HTR
              rcases (by omega : d < 48 ∨ (48 ≤ d ∧ 57 < d)) with h | ⟨h, h'⟩
              all_goals
                clear hdi
                go_wp2_with fail
                refine KN.out.mono ?_
                rintro x w' ⟨rfl, rfl⟩
                go_wp2_with fail
                go_ret3
                exact ⟨StepOut.bad HX.out, Below.refl _ _⟩
            | true =>
              have KN := Lib.hid KN
              by_cases hv : v < 1 ∨ 200 < v
              · have HX := Lib.hid (show X.2 = true from by rw [HE.out]; rcases hv with h | h <;> simp [h])
                clear HE HCL HTR
                rcases (by omega : v < 1 ∨ (¬ v < 1 ∧ 200 < v)) with hv1 | ⟨hv1, hv2⟩ <;> rcases (by omega : d < 48 ∨ (48 ≤ d ∧ 57 < d)) with h | ⟨h, h'⟩
                all_goals
                  clear hdi hv
                  go_wp2_with fail
                  refine KN.out.mono ?_
                  rintro x w' ⟨rfl, rfl⟩
                  go_wp2_with fail
                  go_ret3
                  exact ⟨StepOut.bad HX.out, Below.refl _ _⟩
              · have hv1 : ¬ v < 1 := by omega
                have hv2 : ¬ 200 < v := by omega
                have HE := Lib.hid (show X = (Lib.trimPrefix (s.extract i s.size).data.toList e, !Lib.hasPrefix (s.extract i s.size).data.toList e) from by rw [HE.out]; simp [hv1, hv2])
                clear hv
                rcases HC.out with ⟨rfl, rfl⟩ | ⟨h45, rfl⟩
                · obtain rfl : cn = 91 := HCN.out
                  cases b9 with
                  | false =>
                    have HX := Lib.hid (show X.2 = true from by rw [HE.out, HCL.out]; rfl)
                    clear HE HCL HTR HC HCN
                    rcases (by omega : d < 48 ∨ (48 ≤ d ∧ 57 < d)) with h | ⟨h, h'⟩
                    all_goals
                      clear hdi
                      go_wp2_with fail
                      refine KN.out.mono ?_
                      rintro x w' ⟨rfl, rfl⟩
                      go_wp2_with fail
                      go_ret3
                      exact ⟨StepOut.bad HX.out, Below.refl _ _⟩
                  | true =>
                    have HX := Lib.hid (show X.2 = false from by rw [HE.out, HCL.out]; rfl)
                    have HY := Lib.hid (show (s.extract (i + 1) s.size).data.toList = X.1 from by rw [HE.out, HTR.out rfl])
                    clear HE HCL HTR HC HCN
                    rcases (by omega : d < 48 ∨ (48 ≤ d ∧ 57 < d)) with h | ⟨h, h'⟩
                    all_goals
                      clear hdi
                      go_wp2_with fail
                      refine KN.out.mono ?_
                      rintro x w' ⟨rfl, rfl⟩
                      go_wp2_with fail
                      go_region
                      go_wp2_with fail
                      go_ret3
                      exact ⟨StepOut.good _ HX.out HY.out, (Below.refl _ _).drew⟩
                · have hc91 : ((cn : Int) == 91) = false := by
                    have := HCN.out
                    rcases h45 with rfl | rfl <;> rw [this] <;> rfl
                  have HX := Lib.hid (show X.2 = false from by rw [HE.out, Ad.prefix_none]; rfl)
                  have HY := Lib.hid (show (s.extract i s.size).data.toList = X.1 from by rw [HE.out, Ad.trim_none])
                  clear HE HCL HTR HC HCN h93 h45
                  rcases (by omega : d < 48 ∨ (48 ≤ d ∧ 57 < d)) with h | ⟨h, h'⟩
                  all_goals
                    clear hdi
                    go_wp2_with fail
                    refine KN.out.mono ?_
                    rintro x w' ⟨rfl, rfl⟩
                    go_wp2_with fail
                    go_region
                    go_wp2_with fail
                    go_ret3
                    exact ⟨StepOut.good _ HX.out HY.out, (Below.refl _ _).drew⟩
        · obtain rfl : i = s.size := by omega
          have HE := Lib.hid (HEnd.out (HStop.out fun c hc => by
            rw [List.getElem?_drop, List.getElem?_eq_none (by simp; omega)] at hc
            cases hc))
          have hnil : (s.extract s.size s.size).data.toList = [] := by rw [ext_end]; simp
          rw [hnil] at HE
          clear HStop HEnd HALL
          generalize P.numV (s.extract 1 s.size).data.toList = v at *
          generalize P.numOk (s.extract 1 s.size).data.toList = ok at *
          cases ok with
          | false =>
            have HX := Lib.hid (show X.2 = true from by rw [HE.out]; rfl)
            have KN := Lib.hid KN
            clear HE hnil
            go_wp2_with fail
            refine KN.out.mono ?_
            rintro x w' ⟨rfl, rfl⟩
            go_wp2_with fail
            go_ret3
            exact ⟨StepOut.bad HX.out, Below.refl _ _⟩
          | true =>
            have KN := Lib.hid KN
            by_cases hv : v < 1 ∨ 200 < v
            · have HX := Lib.hid (show X.2 = true from by rw [HE.out]; rcases hv with h | h <;> simp [h])
              clear HE hnil
              rcases (by omega : v < 1 ∨ (¬ v < 1 ∧ 200 < v)) with hv1 | ⟨hv1, hv2⟩
              all_goals
                clear hv
                go_wp2_with fail
                refine KN.out.mono ?_
                rintro x w' ⟨rfl, rfl⟩
                go_wp2_with fail
                go_ret3
                exact ⟨StepOut.bad HX.out, Below.refl _ _⟩
            · have hv1 : ¬ v < 1 := by omega
              have hv2 : ¬ 200 < v := by omega
              have HE := Lib.hid (show X = (Lib.trimPrefix [] e, !Lib.hasPrefix [] e) from by rw [HE.out]; simp [hv1, hv2])
              have HNIL := Lib.hid hnil
              clear hv hnil
              rcases HC.out with ⟨rfl, rfl⟩ | ⟨h45, rfl⟩
              · obtain rfl : cn = 91 := HCN.out
                have HX := Lib.hid (show X.2 = true from by rw [HE.out]; rfl)
                clear HE HC HCN HNIL
                go_wp2_with fail
                refine KN.out.mono ?_
                rintro x w' ⟨rfl, rfl⟩
                go_wp2_with fail
                go_ret3
                exact ⟨StepOut.bad HX.out, Below.refl _ _⟩
              · have hc91 : ((cn : Int) == 91) = false := by
                  have := HCN.out
                  rcases h45 with rfl | rfl <;> rw [this] <;> rfl
                have HX := Lib.hid (show X.2 = false from by rw [HE.out]; rfl)
                have HY := Lib.hid (show (ByteArray.empty).data.toList = X.1 from by rw [HE.out]; rfl)
                clear HE HC HCN HNIL h45
                go_wp2_with fail
                refine KN.out.mono ?_
                rintro x w' ⟨rfl, rfl⟩
                go_wp2_with fail
                go_region
                go_wp2_with fail
                go_ret3
                exact ⟨StepOut.good _ HX.out HY.out, (Below.refl _ _).drew⟩
    · have q1 : ((s[0].toNat : Int) != (c.toNat : Int)) = true := by
        rw [bne_iff_ne]
        intro h
        exact hq (UInt8.toNat_inj.1 (by omega))
      have HX := Lib.hid (Ad.numR_off c e s.data.toList (by rw [hd, Ad.prefix1]; simpa using hq))
      generalize s[0].toNat = sc at *
      generalize c.toNat = cn at *
      clear hc hd hq
      go_enter Tryz.func271, Tryz.ntmps271
      go_wp2_with fail
      go_ret3
      refine ⟨?_, Below.refl _ _⟩
      rw [HX.out]
      exact StepOut.good 1 rfl rfl
end Go.Proofs.YtmabpnmnppfgaaaGreatDoor
