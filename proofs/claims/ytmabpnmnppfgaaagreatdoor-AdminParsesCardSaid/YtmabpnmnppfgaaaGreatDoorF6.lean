/- Part F6 of the proof: the statement that is proved stands in the text that ends with its name. No conditions beyond the card's. -/
import Derived.Test.YtmabpnmnppfgaaaGreatDoorA11
import Derived.Test.YtmabpnmnppfgaaaGreatDoorF5
namespace Go.Proofs.YtmabpnmnppfgaaaGreatDoor
set_option linter.unusedVariables false
open Go Go.RowKit Go.BigFrame
namespace Ad
theorem wordX_kind {s : Bs} {t : Tok} {n : Nat} (h : wordX s = .ok (t, n)) : t.kind ≠ 0 := by
  unfold wordX at h
  repeat' split at h
  all_goals (cases h)
  all_goals exact fun h => by cases h
theorem scanX_kind {l : Bs} {x : Except Int (List Tok)} (h : ScanX l x) : ∀ toks, x = .ok toks → ∀ t ∈ toks, t.kind ≠ 0 := by
  induction h with
  | nil => intro toks e; cases e; simp
  | skip _ _ _ _ _ ih => exact ih
  | remark _ _ _ _ _ ih => exact ih
  | bad _ _ _ _ _ => intro toks e; cases e
  | word c r t n x _ _ hw _ ih =>
    intro toks e
    cases x with
    | error er => cases e
    | ok l =>
      cases e
      intro u hu
      rcases List.mem_cons.1 hu with rfl | hu
      · exact wordX_kind hw
      · exact ih l rfl u hu
theorem parseR_T (toks : List Tok) (hk : ∀ t ∈ toks, t.kind ≠ 0) : parseR (toks ++ [endT]) = parseT (toks ++ [endT]) := by
  cases toks with
  | nil => rfl
  | cons t r =>
    show parseR (t :: (r ++ [endT])) = parseT (t :: (r ++ [endT]))
    have hr : ∀ u ∈ r, u.kind ≠ 0 := fun u hu => hk u (List.mem_cons_of_mem _ hu)
    unfold parseR parseT
    dsimp only
    cases hsh : shapeF t.text with
    | none => rw [if_pos (.inl (by simp [wantS]))]
    | some sh =>
      by_cases hkd : t.kind = 1
      rotate_left
      · rw [if_pos (.inr (.inl hkd))]
        simp [hkd]
      obtain ⟨-, hs4⟩ := shape_word hsh
      have e0 : endT.kind = 0 := rfl
      have z0 : (⟨#[]⟩ : ByteArray).size = 0 := rfl
      have z1 : (⟨#[84]⟩ : ByteArray).size = 1 := rfl
      have z2 : (⟨#[78]⟩ : ByteArray).size = 1 := rfl
      have z3 : (⟨#[78, 35]⟩ : ByteArray).size = 2 := rfl
      rcases hs4 with rfl | rfl | rfl | rfl
      · rcases r with - | ⟨u, - | ⟨v, r⟩⟩
        · simp [hkd, wantS, z1, takeF, headKind, e0]
        · by_cases h3 : u.kind = 3 <;> simp [hkd, wantS, z1, takeF, headKind, e0, h3, goR_cons, goR, zt]
        · have hv : v.kind ≠ 0 := hr v (by simp)
          by_cases h3 : u.kind = 3 <;> simp [hkd, wantS, z1, takeF, headKind, h3, hv]
      · rcases r with - | ⟨u, r⟩
        · simp [hkd, wantS, z0, takeF, headKind, e0, goR, zt]
        · have hu : u.kind ≠ 0 := hr u (by simp)
          simp [hkd, wantS, z0, takeF, headKind, hu]
      · rcases r with - | ⟨u, - | ⟨v, r⟩⟩
        · simp [hkd, wantS, z2, takeF, headKind, e0]
        · by_cases h3 : u.kind = 3
          · simp [hkd, wantS, z2, takeF, headKind, e0, h3, goR_cons, goR, zt]
          · by_cases h1 : u.kind = 1 <;> simp [hkd, wantS, z2, takeF, headKind, e0, h3, h1, goR_cons, goR, zt]
        · have hv : v.kind ≠ 0 := hr v (by simp)
          by_cases h3 : u.kind = 3
          · simp [hkd, wantS, z2, takeF, headKind, h3, hv]
          · by_cases h1 : u.kind = 1 <;> simp [hkd, wantS, z2, takeF, headKind, h3, h1, hv]
      · rcases r with - | ⟨u, - | ⟨v, - | ⟨y, r⟩⟩⟩
        · simp [hkd, wantS, z3, takeF, headKind, e0]
        · by_cases h3 : u.kind = 3
          · simp [hkd, wantS, z3, takeF, headKind, e0, h3]
          · by_cases h1 : u.kind = 1 <;> simp [hkd, wantS, z3, takeF, headKind, e0, h3, h1] <;> (try (split <;> simp))
        · have hv : v.kind ≠ 0 := hr v (by simp)
          by_cases h2 : v.kind = 2
          · by_cases h3 : u.kind = 3
            · simp [hkd, wantS, z3, takeF, headKind, e0, h3, h2, goR_cons, goR, zt]
            · by_cases h1 : u.kind = 1 <;> simp [hkd, wantS, z3, takeF, headKind, e0, h3, h1, h2, goR_cons, goR, zt] <;> (try (split <;> simp))
          · by_cases h3 : u.kind = 3
            · simp [hkd, wantS, z3, takeF, headKind, h3, h2, goR_cons, goR, zt]
            · by_cases h1 : u.kind = 1 <;> simp [hkd, wantS, z3, takeF, headKind, h3, h1, h2, goR_cons, goR, zt] <;> (try (split <;> simp))
        · have hy : y.kind ≠ 0 := hr y (by simp)
          by_cases h2 : v.kind = 2
          · by_cases h3 : u.kind = 3
            · simp [hkd, wantS, z3, takeF, headKind, h3, h2, hy]
            · by_cases h1 : u.kind = 1 <;> simp [hkd, wantS, z3, takeF, headKind, h3, h1, h2, hy] <;> (try (split <;> simp))
          · by_cases h3 : u.kind = 3
            · simp [hkd, wantS, z3, takeF, headKind, h3, h2]
            · by_cases h1 : u.kind = 1 <;> simp [hkd, wantS, z3, takeF, headKind, h3, h1, h2] <;> (try (split <;> simp))
end Ad
theorem text_same (a b : ByteArray) : (a.toList == b.toList) = decide (a = b) := by
  by_cases h : a = b
  · subst h; simp
  · rw [decide_eq_false h, beq_eq_false_iff_ne, ByteArray.toList_eq, ByteArray.toList_eq]
    intro h2
    exact h (by rw [← bytes_back a, h2, bytes_back])
def sameB (w1 n1 d1 w2 n2 d2 : ByteArray) (ns1 ns2 : List Int) : Bool := decide (w1 = w2) && decide (n1 = n2) && decide (d1 = d2) && decide (ns1 = ns2)
set_option maxRecDepth 100000 in
set_option maxHeartbeats 4000000 in
theorem same2_any (w : World) (w1 n1 d1 w2 n2 d2 : ByteArray) (A1 A2 : Option Addr) (m1 m2 c1 c2 : Nat) (ns1 ns2 : List Int) (h1 : IntsIn w w.heap.size A1 m1 ns1) (h2 : IntsIn w w.heap.size A2 m2 ns2) (hm : m1 ≤ 1048576) :
    Calls Tryz.prog 7 #[.agg #[.string w1, .slice A1 m1 c1, .string n1, .string d1], .agg #[.string w2, .slice A2 m2 c2, .string n2, .string d2]] w fun e w' => e = .returned (.bool (sameB w1 n1 d1 w2 n2 d2 ns1 ns2)) ∧ Below w.heap.size w w' := by
  obtain ⟨t1, ht1⟩ : ∃ b, (w1.toList == w2.toList) = b := ⟨_, rfl⟩
  obtain ⟨t2, ht2⟩ : ∃ b, (n1.toList == n2.toList) = b := ⟨_, rfl⟩
  obtain ⟨t3, ht3⟩ : ∃ b, (d1.toList == d2.toList) = b := ⟨_, rfl⟩
  obtain ⟨t4, ht4⟩ : ∃ b, ((m1 : Int) != (m2 : Int)) = b := ⟨_, rfl⟩
  have HM := Lib.hid (show t4 = true → ns1 ≠ ns2 from fun h e => by
    rw [h, bne_iff_ne] at ht4
    have e1 := h1.1
    have e2 := h2.1
    rw [e] at e1
    omega)
  have HM2 := Lib.hid (show t4 = false → m1 = m2 from fun h => by
    rw [h] at ht4
    simp at ht4
    omega)
  have HR := Lib.hid (show sameB w1 n1 d1 w2 n2 d2 ns1 ns2 = (t1 && t2 && t3 && decide (ns1 = ns2)) from by unfold sameB; rw [← ht1, ← ht2, ← ht3, text_same, text_same, text_same])
  have H1 := Lib.hid h1
  have H2 := Lib.hid h2
  clear h1 h2
  generalize sameB w1 n1 d1 w2 n2 d2 ns1 ns2 = res at *
  have B2 := Lib.hid (((Below.refl _ w).alloc (Nat.le_refl _) (.cells #[.string w1, .slice A1 m1 c1, .string n1, .string d1] 24)).alloc (by simp) (.cells #[.string w2, .slice A2 m2 c2, .string n2, .string d2] 24))
  cases t1 with
  | false =>
    have HX := Lib.hid (show res = false from by rw [HR.out]; rfl)
    clear ht4
    go_enter Tryz.func7, Tryz.ntmps7
    go_wp2_with fail
    go_ret
    rw [HX.out]
    exact ⟨rfl, B2.out⟩
  | true =>
  cases t2 with
  | false =>
    have HX := Lib.hid (show res = false from by rw [HR.out]; rfl)
    clear ht4
    go_enter Tryz.func7, Tryz.ntmps7
    go_wp2_with fail
    go_ret
    rw [HX.out]
    exact ⟨rfl, B2.out⟩
  | true =>
  cases t3 with
  | false =>
    have HX := Lib.hid (show res = false from by rw [HR.out]; rfl)
    clear ht4
    go_enter Tryz.func7, Tryz.ntmps7
    go_wp2_with fail
    go_ret
    rw [HX.out]
    exact ⟨rfl, B2.out⟩
  | true =>
  cases t4 with
  | true =>
    have HX := Lib.hid (show res = false from by rw [HR.out, decide_eq_false (HM.out rfl)]; rfl)
    go_enter Tryz.func7, Tryz.ntmps7
    go_wp2_with fail
    go_ret
    rw [HX.out]
    exact ⟨rfl, B2.out⟩
  | false =>
    obtain rfl := HM2.out rfl
    have HX := Lib.hid (show res = decide (ns1 = ns2) from by rw [HR.out]; rfl)
    clear HR HM HM2
    go_enter Tryz.func7, Tryz.ntmps7
    go_wp2_with fail
    obtain ⟨wb, hwb⟩ : ∃ wb, wb = (w.alloc (.cells #[.string w1, .slice A1 m1 c1, .string n1, .string d1] 24)).alloc (.cells #[.string w2, .slice A2 m1 c2, .string n2, .string d2] 24) := ⟨_, rfl⟩
    rw [← hwb] at B2 ⊢
    have E1 := Lib.hid (show Blk wb w.heap.size 24 #[.string w1, .slice A1 m1 c1, .string n1, .string d1] from hwb ▸ (Blk.new w _ _).alloc _)
    have E2 := Lib.hid (show Blk wb (w.heap.size + 1) 24 #[.string w2, .slice A2 m1 c2, .string n2, .string d2] by
      have := Blk.new (w.alloc (.cells #[.string w1, .slice A1 m1 c1, .string n1, .string d1] 24)) 24 #[.string w2, .slice A2 m1 c2, .string n2, .string d2]
      rw [hwb]
      simpa using this)
    have hz2 : w.heap.size + 2 ≤ wb.heap.size := by rw [hwb]; simp
    clear hwb ht4
    go_loopw [5] (fun x wr => ∃ k : Nat, k ≤ m1 ∧ x = .int .i64 k ∧ RowKit.Hid (∀ j, j < k → ns1[j]? = ns2[j]?) ∧ Below wb.heap.size wb wr) (fun x _ => m1 - (intOf x).toNat)
    case atStart => exact ⟨0, by omega, rfl, Lib.hid (fun j hj => absurd hj (by omega)), Below.refl _ _⟩
    case round =>
      obtain ⟨k, hk, rfl, HS, hbel⟩ := hrel
      have HB := Lib.hid hbel
      have c1_ := (E1.out.below hbel (by omega)).cell
      have c2_ := (E2.out.below hbel (by omega)).cell
      have BW := Lib.hid (B2.out.trans (hbel.mono B2.out.size))
      clear hbel
      by_cases hlt : k < m1
      · have q1 : decide ((k : Int) < (m1 : Int)) = true := by simp; omega
        obtain ⟨ad, x, rfl, hb, hl, hc⟩ := (H1.out.below BW.out).at_ hlt
        obtain ⟨ad2, y, rfl, hb2, hl2, hc2⟩ := (H2.out.below BW.out).at_ hlt
        by_cases hxy : x = y
        · subst hxy
          have q2 : (x == x) = true := by simp
          have HS2 := Lib.hid (show ∀ j, j < k + 1 → ns1[j]? = ns2[j]? from fun j hj => by
            rcases Nat.lt_or_ge j k with h | h
            · exact HS.out j h
            · obtain rfl : j = k := by omega
              rw [hl, hl2])
          clear hl hl2 HS
          go_wp2_with fail
          go_quiet (fail)
          go_wp2
          go_roundw
          case rel => exact ⟨k + 1, by omega, by go_num, HS2, below_drewN HB.out _⟩
          case measure => simp [intOf]; omega
        · have q2 : (x == y) = false := by rw [beq_eq_false_iff_ne]; exact hxy
          have HF := Lib.hid (show res = false from by
            rw [HX.out, decide_eq_false_iff_not]
            intro e
            rw [e, hl2] at hl
            injection hl with hl
            exact hxy hl.symm)
          clear hl hl2 HS hxy
          go_wp2_with fail
          go_quiet (fail)
          go_wp2
          go_ret
          rw [HF.out]
          exact ⟨rfl, below_drewN BW.out _⟩
      · have q1 : decide ((k : Int) < (m1 : Int)) = false := by simp; omega
        have HF := Lib.hid (show res = true from by
          rw [HX.out, decide_eq_true_iff]
          apply List.ext_getElem?
          intro j
          rcases Nat.lt_or_ge j k with h | h
          · exact HS.out j h
          · rw [List.getElem?_eq_none (by have := H1.out.1; omega), List.getElem?_eq_none (by have := H2.out.1; omega)])
        clear HS
        go_wp2
        go_ret
        rw [HF.out]
        exact ⟨rfl, BW.out⟩
end Go.Proofs.YtmabpnmnppfgaaaGreatDoor
namespace Go.Proofs.YtmabpnmnppfgaaaGreatDoor
set_option linter.unusedVariables false
open Go Go.RowKit Go.BigFrame
theorem add0 (a : Addr) : a.add 0 = a := by
  obtain ⟨b, o, r⟩ := a
  simp [Addr.add]
namespace Ad
def goP (c : Step) : Bs → Bs → Option Bs
  | [], s => some s
  | b :: ws, s => if b.toNat = 84 then goP c ws (s ++ 32 :: quote c.data) else if b.toNat = 78 then goP c ws (s ++ 32 :: nameW c.name) else if c.nums.length ≠ 1 then none else goP c ws (s ++ 32 :: P.digits (c.nums.headD 0))
theorem goP_cons (c : Step) (b : UInt8) (ws s : Bs) : goP c (b :: ws) s = if b.toNat = 84 then goP c ws (s ++ 32 :: quote c.data) else if b.toNat = 78 then goP c ws (s ++ 32 :: nameW c.name) else if c.nums.length ≠ 1 then none else goP c ws (s ++ 32 :: P.digits (c.nums.headD 0)) := rfl
theorem goP_out {c : Step} {sh : Shape} (h : shapeF c.word = some sh) : goP c (wantS (some sh)).1.data.toList c.word = if sh.2.2 = true ∧ c.nums.length ≠ 1 then none else some (outF c sh) := by
  obtain ⟨-, hs⟩ := shape_word h
  rcases hs with rfl | rfl | rfl | rfl
  · simp [wantS, goP, outF, printW, join2]
  · simp [wantS, goP, outF, printW, join1]
  · simp [wantS, goP, outF, printW, join2]
  · simp [wantS, goP, outF, printW, join3]
theorem outF_len {c : Step} {sh : Shape} (h : shapeF c.word = some sh) (h1 : c.data.length ≤ 4096) (h2 : c.name.length ≤ 4096) : (outF c sh).length ≤ 65536 := by
  obtain ⟨⟨w1, w2, w3⟩, hs⟩ := shape_word h
  have l1 := quote_len c.data
  have l2 := nameW_len c.name
  have l3 := digits_len (c.nums.headD 0)
  unfold outF printW
  generalize P.digits (c.nums.headD 0) = dg at *
  rcases hs with rfl | rfl | rfl | rfl
  · simp only [if_true, Bool.false_eq_true, if_false, List.append_nil, join2]
    simp
    omega
  · simp only [Bool.false_eq_true, if_false, List.append_nil, join1]
    omega
  · simp only [if_true, Bool.false_eq_true, if_false, List.append_nil, List.nil_append, join2]
    simp
    omega
  · simp only [if_true, Bool.false_eq_true, if_false, List.nil_append, List.singleton_append, join3]
    simp
    omega
theorem prints_out {c : Step} {sh : Shape} {s : Bs} (h : shapeF c.word = some sh) (hp : Prints c s) : s = outF c sh := by
  obtain ⟨sh', h1, _, h3, _⟩ := hp
  rw [h] at h1
  cases h1
  exact h3
theorem no_prints {c : Step} {sh : Shape} {x : Except Int (List Tok)} (h : shapeF c.word = some sh) (hx : ScanX (outF c sh) x) (hn : ∀ l, x = .ok l → parseR (l ++ [endT]) ≠ some c) : ¬ ∃ s, Prints c s := by
  rintro ⟨s, hp⟩
  have e := prints_out h hp
  subst e
  obtain ⟨toks, h1, h2⟩ := back hp (scanX_R hx)
  cases x with
  | error er => cases h1
  | ok l =>
    cases h1
    exact hn _ rfl (by rw [parseR_T _ (scanX_kind hx _ rfl)]; exact h2)
theorem yes_prints {c : Step} {sh : Shape} {l : List Tok} (h : shapeF c.word = some sh) (hx : ScanX (outF c sh) (.ok l)) (hp : parseR (l ++ [endT]) = some c) : Prints c (outF c sh) := by
  rw [parseR_T _ (scanX_kind hx l rfl)] at hp
  obtain ⟨s, hs⟩ := fit (fun t ht => by
    rcases List.mem_append.1 ht with h1 | h1
    · exact scan_good (scanX_R hx) l rfl t h1
    · rw [List.mem_singleton] at h1
      rw [h1]
      exact end_good) hp
  have e := prints_out h hs
  rw [← e]
  exact hs
end Ad
theorem PrintOut.no {c : Ad.Step} (h : ¬ ∃ s, Ad.Prints c s) : PrintOut c (.returned (.tuple #[.string ⟨#[]⟩, .int .i64 100])) := .inr ⟨h, 100, rfl, rfl⟩
theorem PrintOut.yes {c : Ad.Step} {s : ByteArray} (h : Ad.Prints c s.data.toList) : PrintOut c (.returned (.tuple #[.string s, .int .i64 0])) := .inl ⟨s, h, rfl⟩
def PrI (w : World) (c : Ad.Step) (want : ByteArray) (res : Option Ad.Bs) (sv x : Value) (wr : World) : Prop := ∃ (i : Nat) (s : ByteArray), x = .int .i64 i ∧ sv = .string s ∧ i ≤ want.size ∧ s.size ≤ 10 + i * 200000 ∧ RowKit.Hid (res = Ad.goP c (want.data.toList.drop i) s.data.toList) ∧ Below w.heap.size w wr
set_option maxRecDepth 100000 in
set_option maxHeartbeats 8000000 in
theorem refPrint_any (w : World) (word name data : ByteArray) (A : Option Addr) (m cp : Nat) (ns : List Int) (hI : IntsIn w w.heap.size A m ns) (hr : ∀ n ∈ ns, -9223372036854775808 ≤ n ∧ n ≤ 9223372036854775807) (hm : m ≤ 1048576) (hnd : name.size + data.size ≤ 20000) :
    Calls Tryz.prog 10 #[.agg #[.string word, .slice A m cp, .string name, .string data]] w fun e w' => PrintOut ⟨word.data.toList, ns, name.data.toList, data.data.toList⟩ e ∧ Below w.heap.size w w' := by
  obtain ⟨c, hc⟩ : ∃ c : Ad.Step, c = ⟨word.data.toList, ns, name.data.toList, data.data.toList⟩ := ⟨_, rfl⟩
  rw [← hc]
  have HC := Lib.hid hc
  have hword : c.word = word.data.toList := by rw [hc]
  have KW := wants_any word
  rw [← hword] at KW
  have HE := Lib.hid (Blk.new w 24 #[.string word, .slice A m cp, .string name, .string data])
  have HB := Lib.hid ((Below.refl _ w).alloc (Nat.le_refl _) (.cells #[.string word, .slice A m cp, .string name, .string data] 24))
  have HI := Lib.hid hI
  have HRB := Lib.hid hr
  clear hI hr hc
  cases hsh : Ad.shapeF c.word with
  | none =>
    rw [hsh] at KW
    have KW := Lib.hid (show ∀ W : World, Calls Tryz.prog 20 #[.string word] W fun e w' => e = .returned (.tuple #[.string ⟨#[]⟩, .bool false]) ∧ w' = W from KW)
    have HN := Lib.hid (Ad.no_shape (c := c) hsh)
    clear hsh hword
    go_enter Tryz.func10, Tryz.ntmps10
    go_wp2_with (go_at_call 20; refine (KW.out _).mono ?_; rintro e w' ⟨rfl, rfl⟩)
    go_ret2
    exact ⟨PrintOut.no HN.out, HB.out⟩
  | some sh =>
    rw [hsh] at KW
    have hok : (Ad.wantS (some sh)).2 = true := by rcases sh with ⟨- | -, - | -, - | -⟩ <;> rfl
    rw [hok] at KW
    have HOUT := Lib.hid (Ad.goP_out hsh)
    obtain ⟨hwz, -⟩ := Ad.want_len (some sh)
    have HW84 := Lib.hid (show ∀ (k : Nat) (hk : k < (Ad.wantS (some sh)).1.size), (Ad.wantS (some sh)).1[k].toNat = 84 ∨ (Ad.wantS (some sh)).1[k].toNat = 78 ∨ (Ad.wantS (some sh)).1[k].toNat = 35 from by
      rcases sh with ⟨- | -, - | -, - | -⟩
      all_goals decide)
    have hwl : word.size ≤ 10 := by
      have := (Ad.shape_word hsh).1.2.2
      rw [hword, len_size] at this
      exact this
    have HSH := Lib.hid hsh
    have HWD := Lib.hid hword
    rw [hword] at HOUT
    generalize (Ad.wantS (some sh)).1 = want at *
    clear hok hsh hword
    have KW := Lib.hid KW
    go_enter Tryz.func10, Tryz.ntmps10
    go_wp2_with (go_at_call 20; refine (KW.out _).mono ?_; rintro e w' ⟨rfl, rfl⟩)
    obtain ⟨w0, hw0⟩ : ∃ w0, w0 = w.alloc (.cells #[.string word, .slice A m cp, .string name, .string data] 24) := ⟨_, rfl⟩
    rw [← hw0] at HE HB ⊢
    have hz0 : w0.heap.size = w.heap.size + 1 := by rw [hw0]; simp
    have HZ := Lib.hid hz0
    clear hw0 hz0 KW
    obtain ⟨res, hres⟩ : ∃ res, res = Ad.goP c want.data.toList word.data.toList := ⟨_, rfl⟩
    have HRES := Lib.hid hres
    clear hres
    go_loopw [6, 7] (fun sv x wr => PrI w0 c want res sv x wr) (fun _ x _ => want.size - (intOf x).toNat)
    case atStart => exact ⟨0, word, rfl, rfl, by omega, by omega, Lib.hid HRES.out, Below.refl _ _⟩
    case round =>
      obtain ⟨i, s, rfl, rfl, hi, hss, HG, hbel⟩ := hrel
      have E1 := Lib.hid (HE.out.below hbel HE.out.lt)
      have B1 := Lib.hid (HB.out.trans (hbel.mono HB.out.size))
      have BL := Lib.hid hbel
      have e1 := E1.out.cell
      have f1 := E1.out.frozen
      clear hbel
      by_cases hlt : i < want.size
      · have hix : ∀ W : World, (Instr.index 9 (.string want) (.int .i64 (i : Int))).run Tryz.prog W = .ok (.int .u8 (want[i].toNat : Int)) W := fun W => idx_atu want i hlt rfl W
        have h3 := HW84.out i hlt
        have HD := Lib.hid (show res = Ad.goP c (want[i] :: want.data.toList.drop (i + 1)) s.data.toList from by
          rw [HG.out, List.drop_eq_getElem_cons (by simpa using hlt)]
          rfl)
        have hb8 := want[i].toNat_lt
        generalize want[i] = b at *
        have hi2 : i < 2 := by omega
        clear HG
        rcases h3 with h | h | h
        · have z1 : ((b.toNat : Int) == 84) = true := by rw [h]; rfl
          have HN := Lib.hid (show res = Ad.goP c (want.data.toList.drop (i + 1)) (s.data.toList ++ 32 :: Ad.quote data.data.toList) from by rw [HD.out, Ad.goP_cons, if_pos h, HC.out])
          have KQ := Lib.hid (fun W => refQuote_any data W (by omega))
          have hql := Ad.quote_len data.data.toList
          rw [len_size] at hql
          obtain ⟨q, hq⟩ : ∃ q : ByteArray, q = ⟨(Ad.quote data.data.toList).toArray⟩ := ⟨_, rfl⟩
          have hqs : q.size ≤ 80002 := by rw [hq, mk_size]; omega
          have HQ := Lib.hid (show q.data.toList = Ad.quote data.data.toList by rw [hq])
          rw [← hq] at KQ
          clear HD h hq hql
          go_wp2_with fail
          refine (KQ.out _).mono ?_
          rintro e w2 ⟨rfl, hb2⟩
          have B2 := Lib.hid (BL.out.trans (hb2.mono BL.out.size))
          clear hb2 e1 f1
          go_wp2_with fail
          go_roundw
          case rel => exact ⟨i + 1, s ++ ⟨#[32]⟩ ++ q, by go_num, rfl, by omega, by simp only [ByteArray.size_append]; show s.size + 1 + q.size ≤ _; omega, Lib.hid (by rw [HN.out, ← HQ.out]; simp), B2.out⟩
          case measure => simp [intOf]; omega
        · have z1 : ((b.toNat : Int) == 84) = false := by rw [h]; rfl
          have z2 : ((b.toNat : Int) == 78) = true := by rw [h]; rfl
          have HN := Lib.hid (show res = Ad.goP c (want.data.toList.drop (i + 1)) (s.data.toList ++ 32 :: Ad.nameW name.data.toList) from by rw [HD.out, Ad.goP_cons, if_neg (by omega), if_pos h, HC.out])
          have KQ := Lib.hid (fun W => nameText_any name W (by omega))
          have hql := Ad.nameW_len name.data.toList
          rw [len_size] at hql
          obtain ⟨q, hq⟩ : ∃ q : ByteArray, q = ⟨(Ad.nameW name.data.toList).toArray⟩ := ⟨_, rfl⟩
          have hqs : q.size ≤ 80002 := by rw [hq, mk_size]; omega
          have HQ := Lib.hid (show q.data.toList = Ad.nameW name.data.toList by rw [hq])
          rw [← hq] at KQ
          clear HD h hq hql
          go_wp2_with fail
          refine (KQ.out _).mono ?_
          rintro e w2 ⟨rfl, hb2⟩
          have B2 := Lib.hid (BL.out.trans (hb2.mono BL.out.size))
          clear hb2 e1 f1
          go_wp2_with fail
          go_roundw
          case rel => exact ⟨i + 1, s ++ ⟨#[32]⟩ ++ q, by go_num, rfl, by omega, by simp only [ByteArray.size_append]; show s.size + 1 + q.size ≤ _; omega, Lib.hid (by rw [HN.out, ← HQ.out]; simp), B2.out⟩
          case measure => simp [intOf]; omega
        · have z1 : ((b.toNat : Int) == 84) = false := by rw [h]; rfl
          have z2 : ((b.toNat : Int) == 78) = false := by rw [h]; rfl
          have hnl := HI.out.1
          by_cases hm1 : m = 1
          · subst hm1
            obtain ⟨n, rfl⟩ : ∃ n, ns = [n] := List.length_eq_one_iff.1 hnl
            obtain ⟨ad, n', rfl, hadb, hnn, hcell⟩ := (HI.out.below B1.out).at_ (k := 0) (by omega)
            obtain rfl : n' = n := by simpa using hnn.symm
            have HN := Lib.hid (show res = Ad.goP c (want.data.toList.drop (i + 1)) (s.data.toList ++ 32 :: P.digits n') from by
              rw [HD.out, Ad.goP_cons, if_neg (by omega), if_neg (by omega), HC.out, if_neg (by simp)]
              rfl)
            have hbn := HRB.out n' (by simp)
            have KQ := Lib.hid (fun W => refDigits_any n' W hbn.1 hbn.2)
            have hql := Ad.digits_len n'
            obtain ⟨q, hq⟩ : ∃ q : ByteArray, q = ⟨(P.digits n').toArray⟩ := ⟨_, rfl⟩
            have hqs : q.size ≤ 80002 := by rw [hq, mk_size]; omega
            have HQ := Lib.hid (show q.data.toList = P.digits n' by rw [hq])
            rw [← hq] at KQ
            have c0 : wr.cell? ad = some (.int .i64 n') := by rw [add0] at hcell; exact hcell
            clear HD h hq hql hbn hnn hcell hnl
            go_wp2_with fail
            refine (KQ.out _).mono ?_
            rintro e w2 ⟨rfl, hb2⟩
            have B2 := Lib.hid (BL.out.trans (hb2.mono BL.out.size))
            clear hb2 e1 f1 c0
            go_wp2_with fail
            go_roundw
            case rel => exact ⟨i + 1, s ++ ⟨#[32]⟩ ++ q, by go_num, rfl, by omega, by simp only [ByteArray.size_append]; show s.size + 1 + q.size ≤ _; omega, Lib.hid (by rw [HN.out, ← HQ.out]; simp), B2.out⟩
            case measure => simp [intOf]; omega
          · have hmi : ((m : Int) != 1) = true := by rw [bne_iff_ne]; omega
            have HNO := Lib.hid (show ¬ ∃ s, Ad.Prints c s from by
              have hn1 : c.nums.length ≠ 1 := by rw [HC.out]; show ns.length ≠ 1; omega
              have hres0 : res = none := by rw [HD.out, Ad.goP_cons, if_neg (by omega), if_neg (by omega), if_pos hn1]
              have h2 := HOUT.out
              rw [← HRES.out, hres0] at h2
              refine Ad.no_fit HSH.out (fun hf => ?_)
              by_cases hx : sh.2.2 = true ∧ c.nums.length ≠ 1
              · have h5 := hf.2.2.1
                rw [if_pos hx.1] at h5
                exact hx.2 h5
              · rw [if_neg hx] at h2
                cases h2)
            clear HD h hm1 hnl
            go_wp2_with fail
            go_ret2
            exact ⟨PrintOut.no HNO.out, B1.out⟩
      · obtain rfl : i = want.size := by omega
        have HR2 := Lib.hid (show res = some s.data.toList from by rw [HG.out, List.drop_eq_nil_of_le (by simp)]; rfl)
        have HS := Lib.hid (show s.data.toList = Ad.outF c sh from by
          have h2 := HOUT.out
          rw [← HRES.out, HR2.out] at h2
          split at h2
          · cases h2
          · injection h2)
        clear HG HW84 HOUT HRES HR2
        by_cases hd4 : data.size ≤ 4096
        rotate_left
        · have HNO := Lib.hid (show ¬ ∃ s, Ad.Prints c s from Ad.no_fit HSH.out (fun hf => hd4 (by have h5 := hf.2.2.2.1; rw [HC.out] at h5; simpa using h5)))
          have hx : (4096 : Int) < (data.size : Int) := by omega
          clear hd4
          go_wp2_with fail
          go_ret2
          exact ⟨PrintOut.no HNO.out, B1.out⟩
        have hdlt : ¬ (4096 : Int) < (data.size : Int) := by omega
        by_cases hn4 : name.size ≤ 4096
        rotate_left
        · have HNO := Lib.hid (show ¬ ∃ s, Ad.Prints c s from Ad.no_fit HSH.out (fun hf => hn4 (by have h5 := hf.2.2.2.2.1; rw [HC.out] at h5; simpa using h5)))
          have hx : (4096 : Int) < (name.size : Int) := by omega
          clear hn4
          go_wp2_with fail
          go_ret2
          exact ⟨PrintOut.no HNO.out, B1.out⟩
        have hnlt : ¬ (4096 : Int) < (name.size : Int) := by omega
        have hs65 : s.size ≤ 65536 := by
          have := Ad.outF_len HSH.out (by rw [HC.out]; simpa using hd4) (by rw [HC.out]; simpa using hn4)
          rw [← HS.out, len_size] at this
          exact this
        have hslt : ¬ (65536 : Int) < (s.size : Int) := by omega
        have KP := Lib.hid (fun W => refParse_any s W (by omega))
        clear hd4 hn4 hss hi hlt
        go_wp2_with fail
        refine (KP.out _).mono ?_
        rintro e w2 ⟨⟨x, hx1, -, hx⟩, hb2⟩
        have HX := Lib.hid (show Ad.ScanX (Ad.outF c sh) x from HS.out ▸ hx1 hs65)
        have E2 := Lib.hid (E1.out.below hb2 E1.out.lt)
        have B2 := Lib.hid (B1.out.trans (hb2.mono B1.out.size))
        have e2 := E2.out.cell
        have f2 := E2.out.frozen
        clear hx1 e1 f1 KP
        cases x with
        | error er =>
          have hx : e = _ := hx
          subst hx
          have her : er ≠ 0 := by rcases Ad.scanX_err HX.out er rfl with h | h <;> omega
          have q1 : (er != 0) = true := by rw [bne_iff_ne]; exact her
          have HNO := Lib.hid (Ad.no_prints HSH.out HX.out (fun l hl => by cases hl))
          clear her hb2
          go_wp2_with fail
          go_ret2
          exact ⟨PrintOut.no HNO.out, B2.out.alloc B2.out.size _⟩
        | ok l =>
          simp only at hx
          cases hp : Ad.parseR (l ++ [Ad.endT]) with
          | none =>
            rw [hp] at hx
            have hx : e = _ := hx
            subst hx
            have HNO := Lib.hid (Ad.no_prints HSH.out HX.out (fun l' hl => by cases hl; rw [hp]; simp))
            clear hb2 hp
            go_wp2_with fail
            go_ret2
            exact ⟨PrintOut.no HNO.out, B2.out.alloc B2.out.size _⟩
          | some c' =>
            rw [hp] at hx
            obtain ⟨v, hv, rfl⟩ := hx
            have HP := Lib.hid hp
            obtain ⟨A', m', k', rfl, hI'⟩ : ∃ A' m' k', v = .slice A' m' k' ∧ IntsIn w2 w2.heap.size A' m' c'.nums := by
              rcases hv with ⟨h1, rfl⟩ | ⟨g, n, cap, h1, rfl, h2, h3, h4⟩
              · exact ⟨none, 0, 0, rfl, by rw [h1]; rfl, fun h => absurd h (by omega)⟩
              · refine ⟨some ⟨g, 0, none⟩, 1, cap, rfl, by rw [h1]; rfl, fun _ => ⟨_, rfl, h3, fun j n' hj => ?_⟩⟩
                rw [h1] at hj
                cases j with
                | zero => simp at hj; subst hj; rw [add0]; exact h4
                | succ j => simp at hj
            have hm' : m' ≤ 1048576 := by
              have := hI'.1
              rcases hv with ⟨h1, h2⟩ | ⟨g, n, cap, h1, h2, _⟩
              · rw [h1] at this; simp at this; omega
              · rw [h1] at this; simp at this; omega
            obtain ⟨w3, hw3⟩ : ∃ w3, w3 = w2.alloc (.cells #[.string ⟨c'.word.toArray⟩, .slice A' m' k', .string ⟨c'.name.toArray⟩, .string ⟨c'.data.toArray⟩] 24) := ⟨_, rfl⟩
            have B3 := Lib.hid (show Below w2.heap.size w2 w3 from hw3 ▸ (Below.refl _ w2).alloc (Nat.le_refl _) _)
            have KS := Lib.hid (same2_any w3 ⟨c'.word.toArray⟩ ⟨c'.name.toArray⟩ ⟨c'.data.toArray⟩ word name data A' A m' m k' cp c'.nums ns ((hI'.below B3.out).less B3.out.size) ((HI.out.below (B2.out.trans (B3.out.mono B2.out.size))).less (by have := B2.out.size; have := B3.out.size; omega)) hm')
            have HEQ := Lib.hid (show sameB ⟨c'.word.toArray⟩ ⟨c'.name.toArray⟩ ⟨c'.data.toArray⟩ word name data c'.nums ns = true ↔ c' = c from by
              rw [HC.out]
              obtain ⟨cw, cn, cnm, cd⟩ := c'
              have e1 : ∀ (l : Ad.Bs) (t : ByteArray), ((⟨l.toArray⟩ : ByteArray) = t) ↔ l = t.data.toList := fun l t => ⟨fun h => by rw [← h], fun h => by rw [h, bytes_back]⟩
              unfold sameB
              simp only [e1, Ad.Step.mk.injEq, Bool.and_eq_true, decide_eq_true_eq]
              exact ⟨fun ⟨⟨⟨h1, h2⟩, h3⟩, h4⟩ => ⟨h1, h4, h2, h3⟩, fun ⟨h1, h4, h2, h3⟩ => ⟨⟨⟨h1, h2⟩, h3⟩, h4⟩⟩)
            have BF := Lib.hid (B2.out.trans (B3.out.mono B2.out.size))
            generalize sameB ⟨c'.word.toArray⟩ ⟨c'.name.toArray⟩ ⟨c'.data.toArray⟩ word name data c'.nums ns = sb at *
            have e3 := (E2.out.alloc (.cells #[.string ⟨c'.word.toArray⟩, .slice A' m' k', .string ⟨c'.name.toArray⟩, .string ⟨c'.data.toArray⟩] 24)).cell
            have f3 := (E2.out.alloc (.cells #[.string ⟨c'.word.toArray⟩, .slice A' m' k', .string ⟨c'.name.toArray⟩, .string ⟨c'.data.toArray⟩] 24)).frozen
            clear hb2 hp hv hI' hm'
            by_cases hcc : c' = c
            · have HY := Lib.hid (Ad.yes_prints HSH.out HX.out (by rw [HP.out, hcc]))
              obtain rfl : sb = true := HEQ.out.2 hcc
              clear hcc HEQ
              go_wp2_with (go_at_call 7; rw [← hw3]; refine KS.out.mono ?_; rintro e w4 ⟨rfl, hb4⟩)
              go_ret2
              exact ⟨PrintOut.yes (HS.out ▸ HY.out), BF.out.trans (hb4.mono BF.out.size)⟩
            · have HNO := Lib.hid (Ad.no_prints HSH.out HX.out (fun l' hl => by cases hl; rw [HP.out]; intro h; exact hcc (Option.some.inj h)))
              obtain rfl : sb = false := by
                cases sb with
                | false => rfl
                | true => exact absurd (HEQ.out.1 rfl) hcc
              clear hcc HEQ
              go_wp2_with (go_at_call 7; rw [← hw3]; refine KS.out.mono ?_; rintro e w4 ⟨rfl, hb4⟩)
              go_ret2
              exact ⟨PrintOut.no HNO.out, BF.out.trans (hb4.mono BF.out.size)⟩
end Go.Proofs.YtmabpnmnppfgaaaGreatDoor
