/- Parts, joined. -/
import Derived.Test.YtjikgmbhnknojaaGreatDoorA10
import Derived.RegionTactic
/- What caduceusref25.SameStep says of two commands that are alike. -/
namespace Go.Proofs.YtjikgmbhnknojaaGreatDoor
set_option linter.unusedVariables false
open Go Go.RowKit Go.BigFrame
theorem IntsIn.at_ {w : World} {B m : Nat} {A : Option Addr} {ns : List Int} (h : IntsIn w B A m ns) {k : Nat} (hk : k < m) : ∃ ad n, A = some ad ∧ ad.block < B ∧ ns[k]? = some n ∧ w.cell? (ad.add k) = some (.int .i64 n) := by
  obtain ⟨ad, e, hB, hc⟩ := h.2 (by omega)
  have hk' : k < ns.length := by rw [h.1]; exact hk
  exact ⟨ad, ns[k], e, hB, List.getElem?_eq_getElem hk', hc k _ (List.getElem?_eq_getElem hk')⟩
set_option maxRecDepth 100000 in
set_option maxHeartbeats 4000000 in
theorem same_any (w : World) (word name data : ByteArray) (A1 A2 : Option Addr) (m c1 c2 : Nat) (ns : List Int) (h1 : IntsIn w w.heap.size A1 m ns) (h2 : IntsIn w w.heap.size A2 m ns) (hm : m ≤ 1048576) :
    Calls Tryz.prog 7 #[.agg #[.string word, .slice A1 m c1, .string name, .string data], .agg #[.string word, .slice A2 m c2, .string name, .string data]] w fun e w' => e = .returned (.bool true) ∧ Below w.heap.size w w' := by
  have t1 : (word.toList == word.toList) = true := by simp
  have t2 : (name.toList == name.toList) = true := by simp
  have t3 : (data.toList == data.toList) = true := by simp
  have H1 := Lib.hid h1
  have H2 := Lib.hid h2
  clear h1 h2
  go_enter Tryz.func7, Tryz.ntmps7
  go_wp2_with fail
  obtain ⟨w2, hw2⟩ : ∃ w2, w2 = (w.alloc (.cells #[.string word, .slice A1 m c1, .string name, .string data] 24)).alloc (.cells #[.string word, .slice A2 m c2, .string name, .string data] 24) := ⟨_, rfl⟩
  rw [← hw2]
  have E1 := Lib.hid (show Blk w2 w.heap.size 24 #[.string word, .slice A1 m c1, .string name, .string data] from hw2 ▸ (Blk.new w _ _).alloc _)
  have E2 := Lib.hid (show Blk w2 (w.heap.size + 1) 24 #[.string word, .slice A2 m c2, .string name, .string data] by
    have := Blk.new (w.alloc (.cells #[.string word, .slice A1 m c1, .string name, .string data] 24)) 24 #[.string word, .slice A2 m c2, .string name, .string data]
    rw [hw2]
    simpa using this)
  have B2 := Lib.hid (show Below w.heap.size w w2 from hw2 ▸ ((Below.refl _ w).alloc (Nat.le_refl _) _).alloc (by simp) _)
  have hz2 : w.heap.size + 2 ≤ w2.heap.size := by rw [hw2]; simp
  clear hw2
  go_loopw [5] (fun x wr => ∃ k : Nat, k ≤ m ∧ x = .int .i64 k ∧ Below w2.heap.size w2 wr) (fun x _ => m - (intOf x).toNat)
  case atStart => exact ⟨0, by omega, rfl, Below.refl _ _⟩
  case round =>
    obtain ⟨k, hk, rfl, hbel⟩ := hrel
    have HB := Lib.hid hbel
    have c1_ := (E1.out.below hbel (by omega)).cell
    have c2_ := (E2.out.below hbel (by omega)).cell
    have BW := Lib.hid (B2.out.trans (hbel.mono B2.out.size))
    clear hbel
    by_cases hlt : k < m
    · have q1 : decide ((k : Int) < (m : Int)) = true := by simp; omega
      obtain ⟨ad, x, rfl, hb, hl, hc⟩ := (H1.out.below BW.out).at_ hlt
      obtain ⟨ad2, y, rfl, hb2, hl2, hc2⟩ := (H2.out.below BW.out).at_ hlt
      obtain rfl : y = x := Option.some.inj (hl2.symm.trans hl)
      have q2 : (y == y) = true := by simp
      clear hl hl2
      go_wp2_with fail
      go_quiet (fail)
      go_wp2
      go_roundw
      case rel => exact ⟨k + 1, by omega, by go_num, below_drewN HB.out _⟩
      case measure => simp [intOf]; omega
    · have q1 : decide ((k : Int) < (m : Int)) = false := by simp; omega
      go_wp2
      go_ret
      exact ⟨rfl, BW.out⟩
end Go.Proofs.YtjikgmbhnknojaaGreatDoor

/- What is printed is read as the command; what is read is printed in one way, which is read as the same: the law's call returns true. -/
namespace Go.Proofs.YtjikgmbhnknojaaGreatDoor
set_option linter.unusedVariables false
open Go Go.RowKit Go.BigFrame
def AliveOk : Prop := ∀ w : World, Calls Tryz.prog 4 #[] w fun e w' => e = .returned (.bool true) ∧ Below w.heap.size w w'
theorem same_bytes (s : ByteArray) : (⟨s.data.toList.toArray⟩ : ByteArray) = s := by cases s; rfl
theorem NumsNew.ints {w w' : World} {v : Value} {ns : List Int} (h : NumsNew w w' v ns) : ∃ A m cp, v = .slice A m cp ∧ m ≤ 1 ∧ IntsIn w' w'.heap.size A m ns := by
  rcases h with ⟨rfl, rfl⟩ | ⟨g, n, rfl, rfl, h1, h2⟩
  · exact ⟨none, 0, 0, rfl, by omega, rfl, fun h => absurd h (by omega)⟩
  · refine ⟨_, 1, 1, rfl, Nat.le_refl _, rfl, fun _ => ⟨_, rfl, h2.lt, fun j x hj => ?_⟩⟩
    have hj0 : j = 0 := by
      have := (List.getElem?_eq_some_iff.1 hj).1
      simp at this
      exact this
    subst hj0
    simp at hj
    subst hj
    rw [Addr.add_lit]
    exact h2.cell 0
theorem IntsIn.up {w w' : World} {A : Option Addr} {m : Nat} {ns : List Int} (h : IntsIn w w.heap.size A m ns) (hb : Below w.heap.size w w') : IntsIn w' w'.heap.size A m ns := (h.below hb).less hb.size
/-- A text that is a command is read as the command. -/
theorem parse_back {w : World} {s : ByteArray} {c : Ad.Step} (h : Ad.Prints c s.data.toList) :
    Calls Tryz.prog 6 #[.string s] w fun e w' => (∃ v, NumsNew w w' v c.nums ∧ e = .returned (.tuple #[.agg #[.string ⟨c.word.toArray⟩, v, .string ⟨c.name.toArray⟩, .string ⟨c.data.toArray⟩], .int .i64 0])) ∧ Below w.heap.size w w' := by
  have hsz : s.size ≤ 65536 := by
    obtain ⟨sh, -, -, -, hl⟩ := h
    simpa using hl
  refine (parse_any s w (by omega)).mono ?_
  rintro e w' ⟨⟨x, hx1, -, hx⟩, hb⟩
  obtain ⟨toks, rfl, hp⟩ := Ad.back h (hx1 hsz)
  rw [Option.bind_some, hp] at hx
  exact ⟨hx, hb⟩
/-- What is read can be written. -/
theorem parsed_fit {w : World} {line : ByteArray} (hs : line.size ≤ 65536) :
    Calls Tryz.prog 6 #[.string line] w fun e w' => ((∃ er, er ≠ (0 : Int) ∧ e = .returned (.tuple #[.agg zs, .int .i64 er])) ∨ (∃ c s v, Ad.Prints c s ∧ NumsNew w w' v c.nums ∧ e = .returned (.tuple #[.agg #[.string ⟨c.word.toArray⟩, v, .string ⟨c.name.toArray⟩, .string ⟨c.data.toArray⟩], .int .i64 0]))) ∧ Below w.heap.size w w' := by
  refine (parse_any line w (by omega)).mono ?_
  rintro e w' ⟨⟨x, hx1, -, hx⟩, hb⟩
  refine ⟨?_, hb⟩
  cases x with
  | none => exact .inl hx
  | some toks =>
    rw [Option.bind_some] at hx
    cases hp : Ad.parseT (toks ++ [Ad.endT]) with
    | none =>
      rw [hp] at hx
      exact .inl hx
    | some c =>
      rw [hp] at hx
      obtain ⟨v, h1, h2⟩ := hx
      obtain ⟨s, hs2⟩ := Ad.fit (l := toks ++ [Ad.endT]) (fun t ht => by
        rcases List.mem_append.1 ht with h | h
        · exact Ad.scan_good (hx1 hs) toks rfl t h
        · simp at h
          subst h
          exact Ad.end_good) hp
      exact .inr ⟨c, s, v, hs2, h1, h2⟩
set_option maxRecDepth 100000 in
set_option maxHeartbeats 8000000 in
theorem back_any (hal : AliveOk) (w : World) (word name data line : ByteArray) (A : Option Addr) (m cp : Nat) (ns : List Int) (hI : IntsIn w w.heap.size A m ns) (hr : ∀ n ∈ ns, -9223372036854775808 ≤ n ∧ n ≤ 9223372036854775807) :
    Calls Tryz.prog 3 #[.agg #[.string word, .slice A m cp, .string name, .string data], .string line] w fun e w' => e = .returned (.bool true) ∧ Below w.heap.size w w' := by
  have HAL := Lib.hid hal
  have HI := Lib.hid hI
  have HR := Lib.hid hr
  have B0 := Lib.hid ((Below.refl _ w).alloc (Nat.le_refl _) (.cells #[.string word, .slice A m cp, .string name, .string data] 24))
  have E0 := Lib.hid (Blk.new w 24 #[.string word, .slice A m cp, .string name, .string data])
  have c0 := E0.out.cell
  clear hal hI hr
  go_enter Tryz.func3, Tryz.ntmps3
  by_cases hl : line.size ≤ 20000
  rotate_left
  · have hx : (20000 : Int) < (line.size : Int) := by omega
    go_wp2_with fail
    refine (HAL.out _).mono ?_
    rintro e w_ ⟨rfl, hb_⟩
    go_wp2_with fail
    go_ret
    exact ⟨rfl, B0.out.trans (hb_.mono B0.out.size)⟩
  have hxhl : ¬ (20000 : Int) < (line.size : Int) := by omega
  by_cases hm : m ≤ 20
  rotate_left
  · have hx : (20 : Int) < (m : Int) := by omega
    go_wp2_with fail
    refine (HAL.out _).mono ?_
    rintro e w_ ⟨rfl, hb_⟩
    go_wp2_with fail
    go_ret
    exact ⟨rfl, B0.out.trans (hb_.mono B0.out.size)⟩
  have hxhm : ¬ (20 : Int) < (m : Int) := by omega
  by_cases hnd : ¬ (20000 : Int) < wrap64 ((name.size : Int) + (data.size : Int))
  rotate_left
  · have hx : (20000 : Int) < wrap64 ((name.size : Int) + (data.size : Int)) := by omega
    go_wp2_with fail
    refine (HAL.out _).mono ?_
    rintro e w_ ⟨rfl, hb_⟩
    go_wp2_with fail
    go_ret
    exact ⟨rfl, B0.out.trans (hb_.mono B0.out.size)⟩
  have hxhnd : ¬ (20000 : Int) < wrap64 ((name.size : Int) + (data.size : Int)) := by omega
  go_wp2_with fail
  have hI1 := HI.out.up B0.out
  refine (print_any _ word name data A m cp ns hI1 HR.out).mono ?_
  rintro e w2 ⟨hpo, hb2⟩
  have E2 := Lib.hid (E0.out.below hb2 E0.out.lt)
  have B2 := Lib.hid (B0.out.trans (hb2.mono B0.out.size))
  have I2 := Lib.hid (hI1.up hb2)
  clear hb2 hI1 E0 B0 c0 HI
  have c2 := E2.out.cell
  rcases hpo with ⟨s, hps, rfl⟩ | ⟨-, er, her, rfl⟩
  · skip
    have KP := Lib.hid (fun W => parse_back (w := W) hps)
    clear hps
    go_wp2_with fail
    refine (KP.out _).mono ?_
    rintro e w3 ⟨⟨v, hnn, rfl⟩, hb3⟩
    obtain ⟨Au, mu, cu, rfl, hmu, hIu⟩ := hnn.ints
    simp only [same_bytes]
    have hmm : mu = m := hIu.1.symm.trans I2.out.1
    subst hmm
    have EU := Lib.hid (Blk.new w3 24 #[.string word, .slice Au mu cu, .string name, .string data])
    have hbu := (Below.refl _ w3).alloc (Nat.le_refl _) (.cells #[.string word, .slice Au mu cu, .string name, .string data] 24)
    have E3 := Lib.hid ((E2.out.below hb3 E2.out.lt).alloc (.cells #[.string word, .slice Au mu cu, .string name, .string data] 24))
    have B3 := Lib.hid ((B2.out.trans (hb3.mono B2.out.size)).trans (hbu.mono (Nat.le_trans B2.out.size hb3.size)))
    have I3 := Lib.hid ((I2.out.up hb3).up hbu)
    have IU := Lib.hid (hIu.up hbu)
    have cu1 := EU.out.cell
    have cu2 := E3.out.cell
    have KS := Lib.hid (same_any _ word name data A Au mu cp cu ns I3.out IU.out (by omega))
    clear hnn hb3 hbu hIu E2 B2 I2 c2 KP
    go_wp2_with fail
    refine KS.out.mono ?_
    rintro e w4 ⟨rfl, hb4⟩
    have B4 := Lib.hid (B3.out.trans (hb4.mono B3.out.size))
    clear hb4 cu1 cu2 KS IU I3 B3 E3 EU
    go_wp2_with fail
    refine (parsed_fit (line := line) (w := w4) (by omega)).mono ?_
    rintro e w5 ⟨hpo, hb5⟩
    have B5 := Lib.hid (B4.out.trans (hb5.mono B4.out.size))
    rcases hpo with ⟨er, her, rfl⟩ | ⟨c, s2, v, hfit, hnn, rfl⟩
    · have q9 : (er != 0) = true := by rw [bne_iff_ne]; exact her
      have cz := (Blk.new w5 24 zs).cell
      have BZ := Lib.hid (B5.out.alloc B5.out.size (.cells zs 24))
      have EZ := Lib.hid (Blk.new w5 24 zs)
      go_wp2_with fail
      refine (HAL.out _).mono ?_
      rintro e w_ ⟨rfl, hb_⟩
      have cz2 := (EZ.out.below hb_ EZ.out.lt).cell
      go_wp2_with fail
      go_ret
      exact ⟨rfl, BZ.out.trans (hb_.mono BZ.out.size)⟩
    · obtain ⟨Av, mv, cv, rfl, hmv, hIv⟩ := hnn.ints
      clear hnn
      obtain ⟨word2, hw2⟩ : ∃ b : ByteArray, b = ⟨c.word.toArray⟩ := ⟨_, rfl⟩
      obtain ⟨name2, hn2⟩ : ∃ b : ByteArray, b = ⟨c.name.toArray⟩ := ⟨_, rfl⟩
      obtain ⟨data2, hd2⟩ : ∃ b : ByteArray, b = ⟨c.data.toArray⟩ := ⟨_, rfl⟩
      rw [← hw2, ← hn2, ← hd2]
      have HC := Lib.hid (show c = ⟨word2.data.toList, c.nums, name2.data.toList, data2.data.toList⟩ by rw [hw2, hn2, hd2])
      obtain ⟨sh, hsh, hfs, -, -⟩ := id hfit
      have HFT := Lib.hid hfit
      have hnr : ∀ n ∈ c.nums, -9223372036854775808 ≤ n ∧ n ≤ 9223372036854775807 := by
        intro n hn
        have hlen := hfs.2.2.1
        cases hsm : sh.2.2 with
        | false =>
          rw [hsm] at hlen
          simp at hlen
          rw [hlen] at hn
          cases hn
        | true =>
          rw [hsm] at hlen
          obtain ⟨n1, hn1⟩ := List.length_eq_one_iff.1 hlen
          have h6 := hfs.2.2.2.2.2 hsm
          rw [hn1] at hn h6
          simp at hn h6
          subst hn
          omega
      have HNR := Lib.hid hnr
      clear hnr hfit hw2 hn2 hd2 hsh hfs sh
      have EV := Lib.hid (Blk.new w5 24 #[.string word2, .slice Av mv cv, .string name2, .string data2])
      have BV := Lib.hid (B5.out.alloc B5.out.size (.cells #[.string word2, .slice Av mv cv, .string name2, .string data2] 24))
      have IV := Lib.hid (hIv.up ((Below.refl _ w5).alloc (Nat.le_refl _) (.cells #[.string word2, .slice Av mv cv, .string name2, .string data2] 24)))
      have cv_ := EV.out.cell
      clear hIv hb5 B5
      go_wp2_with fail
      refine (print_any _ word2 name2 data2 Av mv cv c.nums IV.out HNR.out).mono ?_
      rintro e w6 ⟨hpo, hb6⟩
      rw [← HC.out] at hpo
      rcases hpo with ⟨s3, hps3, rfl⟩ | ⟨hno, -⟩
      · skip
        have E6 := Lib.hid (EV.out.below hb6 EV.out.lt)
        have B6 := Lib.hid (BV.out.trans (hb6.mono BV.out.size))
        have I6 := Lib.hid (IV.out.up hb6)
        have c6 := E6.out.cell
        have KP := Lib.hid (fun W => parse_back (w := W) hps3)
        clear hb6 EV BV IV cv_ hps3
        go_wp2_with fail
        refine (KP.out _).mono ?_
        rintro e w7 ⟨⟨v, hnn, rfl⟩, hb7⟩
        obtain ⟨Au, mu, cu, rfl, hmu, hIu⟩ := hnn.ints
        have e1 : (⟨c.word.toArray⟩ : ByteArray) = word2 := by rw [HC.out]
        have e2 : (⟨c.name.toArray⟩ : ByteArray) = name2 := by rw [HC.out]
        have e3 : (⟨c.data.toArray⟩ : ByteArray) = data2 := by rw [HC.out]
        rw [e1, e2, e3]
        clear hnn e1 e2 e3
        have hmm : mu = mv := hIu.1.symm.trans I6.out.1
        subst hmm
        have EU := Lib.hid (Blk.new w7 24 #[.string word2, .slice Au mu cu, .string name2, .string data2])
        have hbu := (Below.refl _ w7).alloc (Nat.le_refl _) (.cells #[.string word2, .slice Au mu cu, .string name2, .string data2] 24)
        have E7 := Lib.hid ((E6.out.below hb7 E6.out.lt).alloc (.cells #[.string word2, .slice Au mu cu, .string name2, .string data2] 24))
        have B7 := Lib.hid ((B6.out.trans (hb7.mono B6.out.size)).trans (hbu.mono (Nat.le_trans B6.out.size hb7.size)))
        have I7 := Lib.hid ((I6.out.up hb7).up hbu)
        have IU := Lib.hid (hIu.up hbu)
        clear hb7 hbu hIu E6 B6 I6 c6
        go_wp2_with fail
        refine (HAL.out _).mono ?_
        rintro e w8 ⟨rfl, hb8⟩
        have cu1 := (EU.out.below hb8 EU.out.lt).cell
        have cu2 := (E7.out.below hb8 E7.out.lt).cell
        have B8 := Lib.hid (B7.out.trans (hb8.mono B7.out.size))
        have hs1 := I7.out.up hb8
        have hs2 := IU.out.up hb8
        have KS := Lib.hid (same_any w8 word2 name2 data2 Av Au mu cv cu c.nums hs1 hs2 (by omega))
        clear hb8 EU E7 B7 I7 IU hs1 hs2
        go_wp2_with fail
        refine KS.out.mono ?_
        rintro e w9 ⟨rfl, hb9⟩
        go_wp2_with fail
        go_ret
        exact ⟨rfl, B8.out.trans (hb9.mono B8.out.size)⟩
      · exact absurd ⟨_, HFT.out⟩ hno
  · skip
    have q3 : (er == 0) = false := by rw [beq_eq_false_iff_ne]; exact her
    clear c2 E2 I2 her
    go_wp2_with fail
    refine (parsed_fit (line := line) (w := w2) (by omega)).mono ?_
    rintro e w3 ⟨hpo, hb3⟩
    have B3 := Lib.hid (B2.out.trans (hb3.mono B2.out.size))
    rcases hpo with ⟨er, her, rfl⟩ | ⟨c, s2, v, hfit, hnn, rfl⟩
    · have q9 : (er != 0) = true := by rw [bne_iff_ne]; exact her
      have cz := (Blk.new w3 24 zs).cell
      have BZ := Lib.hid (B3.out.alloc B3.out.size (.cells zs 24))
      have EZ := Lib.hid (Blk.new w3 24 zs)
      go_wp2_with fail
      refine (HAL.out _).mono ?_
      rintro e w_ ⟨rfl, hb_⟩
      have cz2 := (EZ.out.below hb_ EZ.out.lt).cell
      go_wp2_with fail
      go_ret
      exact ⟨rfl, BZ.out.trans (hb_.mono BZ.out.size)⟩
    · obtain ⟨Av, mv, cv, rfl, hmv, hIv⟩ := hnn.ints
      clear hnn
      obtain ⟨word2, hw2⟩ : ∃ b : ByteArray, b = ⟨c.word.toArray⟩ := ⟨_, rfl⟩
      obtain ⟨name2, hn2⟩ : ∃ b : ByteArray, b = ⟨c.name.toArray⟩ := ⟨_, rfl⟩
      obtain ⟨data2, hd2⟩ : ∃ b : ByteArray, b = ⟨c.data.toArray⟩ := ⟨_, rfl⟩
      rw [← hw2, ← hn2, ← hd2]
      have HC := Lib.hid (show c = ⟨word2.data.toList, c.nums, name2.data.toList, data2.data.toList⟩ by rw [hw2, hn2, hd2])
      obtain ⟨sh, hsh, hfs, -, -⟩ := id hfit
      have HFT := Lib.hid hfit
      have hnr : ∀ n ∈ c.nums, -9223372036854775808 ≤ n ∧ n ≤ 9223372036854775807 := by
        intro n hn
        have hlen := hfs.2.2.1
        cases hsm : sh.2.2 with
        | false =>
          rw [hsm] at hlen
          simp at hlen
          rw [hlen] at hn
          cases hn
        | true =>
          rw [hsm] at hlen
          obtain ⟨n1, hn1⟩ := List.length_eq_one_iff.1 hlen
          have h6 := hfs.2.2.2.2.2 hsm
          rw [hn1] at hn h6
          simp at hn h6
          subst hn
          omega
      have HNR := Lib.hid hnr
      clear hnr hfit hw2 hn2 hd2 hsh hfs sh
      have EV := Lib.hid (Blk.new w3 24 #[.string word2, .slice Av mv cv, .string name2, .string data2])
      have BV := Lib.hid (B3.out.alloc B3.out.size (.cells #[.string word2, .slice Av mv cv, .string name2, .string data2] 24))
      have IV := Lib.hid (hIv.up ((Below.refl _ w3).alloc (Nat.le_refl _) (.cells #[.string word2, .slice Av mv cv, .string name2, .string data2] 24)))
      have cv_ := EV.out.cell
      clear hIv hb3 B3
      go_wp2_with fail
      refine (print_any _ word2 name2 data2 Av mv cv c.nums IV.out HNR.out).mono ?_
      rintro e w4 ⟨hpo, hb4⟩
      rw [← HC.out] at hpo
      rcases hpo with ⟨s3, hps3, rfl⟩ | ⟨hno, -⟩
      · skip
        have E4 := Lib.hid (EV.out.below hb4 EV.out.lt)
        have B4 := Lib.hid (BV.out.trans (hb4.mono BV.out.size))
        have I4 := Lib.hid (IV.out.up hb4)
        have c4 := E4.out.cell
        have KP := Lib.hid (fun W => parse_back (w := W) hps3)
        clear hb4 EV BV IV cv_ hps3
        go_wp2_with fail
        refine (KP.out _).mono ?_
        rintro e w5 ⟨⟨v, hnn, rfl⟩, hb5⟩
        obtain ⟨Au, mu, cu, rfl, hmu, hIu⟩ := hnn.ints
        have e1 : (⟨c.word.toArray⟩ : ByteArray) = word2 := by rw [HC.out]
        have e2 : (⟨c.name.toArray⟩ : ByteArray) = name2 := by rw [HC.out]
        have e3 : (⟨c.data.toArray⟩ : ByteArray) = data2 := by rw [HC.out]
        rw [e1, e2, e3]
        clear hnn e1 e2 e3
        have hmm : mu = mv := hIu.1.symm.trans I4.out.1
        subst hmm
        have EU := Lib.hid (Blk.new w5 24 #[.string word2, .slice Au mu cu, .string name2, .string data2])
        have hbu := (Below.refl _ w5).alloc (Nat.le_refl _) (.cells #[.string word2, .slice Au mu cu, .string name2, .string data2] 24)
        have E5 := Lib.hid ((E4.out.below hb5 E4.out.lt).alloc (.cells #[.string word2, .slice Au mu cu, .string name2, .string data2] 24))
        have B5 := Lib.hid ((B4.out.trans (hb5.mono B4.out.size)).trans (hbu.mono (Nat.le_trans B4.out.size hb5.size)))
        have I5 := Lib.hid ((I4.out.up hb5).up hbu)
        have IU := Lib.hid (hIu.up hbu)
        clear hb5 hbu hIu E4 B4 I4 c4
        go_wp2_with fail
        refine (HAL.out _).mono ?_
        rintro e w6 ⟨rfl, hb6⟩
        have cu1 := (EU.out.below hb6 EU.out.lt).cell
        have cu2 := (E5.out.below hb6 E5.out.lt).cell
        have B6 := Lib.hid (B5.out.trans (hb6.mono B5.out.size))
        have hs1 := I5.out.up hb6
        have hs2 := IU.out.up hb6
        have KS := Lib.hid (same_any w6 word2 name2 data2 Av Au mu cv cu c.nums hs1 hs2 (by omega))
        clear hb6 EU E5 B5 I5 IU hs1 hs2
        go_wp2_with fail
        refine KS.out.mono ?_
        rintro e w7 ⟨rfl, hb7⟩
        go_wp2_with fail
        go_ret
        exact ⟨rfl, B6.out.trans (hb7.mono B6.out.size)⟩
      · exact absurd ⟨_, HFT.out⟩ hno
end Go.Proofs.YtjikgmbhnknojaaGreatDoor
