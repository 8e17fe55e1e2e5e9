/- The first call of chapter 21's statements: it returns true. -/
import Derived.Test.YtjbhlojfmcldjabPr14
namespace Go.Proofs.Ytjbhlojfmcldjab
set_option linter.unusedVariables false
open Go.RowKit Go.BigFrame
set_option maxRecDepth 100000 in
set_option maxHeartbeats 4000000 in
theorem alive_any (w : World) : Calls Try.prog 7 #[] w fun e w' => e = .returned (.bool true) ∧ Below w.heap.size w w' := by
  go_enter Try.func7, Try.ntmps7
  go_wp2_with fail
  refine (channel_any _).mono ?_
  rintro x w1 ⟨g, rfl, hd1, -, hb1⟩
  have hl1 := legs_any ⟨#[97, 100, 116]⟩ ⟨#[]⟩ ⟨#[]⟩ ⟨#[]⟩ ⟨#[]⟩ false 0 0 (some ⟨g, 0, none⟩) 3 3 dsA none 0 0 [] pA w1.heap.size (w1.alloc (.cells #[.string ⟨#[97, 100, 116]⟩, .bool false, .int .i64 0, .string ⟨#[]⟩, .string ⟨#[]⟩, .string ⟨#[]⟩, .string ⟨#[]⟩, .slice (some ⟨g, 0, none⟩) 3 3, .int .i64 0] 24)) (hd1.below ((Below.refl _ _).alloc (Nat.le_refl _) _)) Reads.nil (by simp) (by simp) (by simp)
  rw [lsA_eq] at hl1
  have L1 := Lib.hid hl1
  have D1 := Lib.hid hd1
  have B1 := Lib.hid hb1
  have K1 := Lib.hid (Blk.new w1 24 #[.string ⟨#[97, 100, 116]⟩, .bool false, .int .i64 0, .string ⟨#[]⟩, .string ⟨#[]⟩, .string ⟨#[]⟩, .string ⟨#[]⟩, .slice (some ⟨g, 0, none⟩) 3 3, .int .i64 0])
  clear hl1 hd1 hb1
  go_wp2_with fail
  refine L1.out.mono ?_
  rintro x w3 ⟨v, rfl, hown, hb3⟩
  obtain ⟨A2, c2, hv, hl3⟩ := hown.reads
  have hv : v = .slice A2 3 c2 := hv
  subst hv
  have hz : (w1.alloc (.cells #[.string ⟨#[97, 100, 116]⟩, .bool false, .int .i64 0, .string ⟨#[]⟩, .string ⟨#[]⟩, .string ⟨#[]⟩, .string ⟨#[]⟩, .slice (some ⟨g, 0, none⟩) 3 3, .int .i64 0] 24)).heap.size = w1.heap.size + 1 := by simp only [World.alloc, Array.size_push]
  have k3 := K1.out.below hb3 K1.out.lt
  have b3 : Below w1.heap.size w1 w3 := ((Below.refl _ _).alloc (Nat.le_refl _) _).trans (hb3.mono (by rw [hz]; omega))
  have d3 : DestsAt w3 w3.heap.size (some ⟨g, 0, none⟩) 3 dsA := (D1.out.below b3).more b3.size
  have bw3 : Below w.heap.size w w3 := B1.out.trans (b3.mono B1.out.size)
  have hl3 : LegsAt w3 w3.heap.size A2 3 lsA := hl3
  have k4 := Blk.new w3 33 #[.int .i64 1, .int .i64 0, .int .i64 0, .int .i64 3, .int .i64 (-1), .string ⟨#[]⟩, .int .i64 0, .slice A2 3 c2]
  have k34 := k3.alloc (.cells #[.int .i64 1, .int .i64 0, .int .i64 0, .int .i64 3, .int .i64 (-1), .string ⟨#[]⟩, .int .i64 0, .slice A2 3 c2] 33)
  have hs34 : Stays w3 (w3.alloc (.cells #[.int .i64 1, .int .i64 0, .int .i64 0, .int .i64 3, .int .i64 (-1), .string ⟨#[]⟩, .int .i64 0, .slice A2 3 c2] 33)) := Stays.alloc _ _
  have hl4 := (hl3.below hs34).more hs34.size
  have d4 := (d3.below hs34).more hs34.size
  have bw4 : Below w.heap.size w (w3.alloc (.cells #[.int .i64 1, .int .i64 0, .int .i64 0, .int .i64 3, .int .i64 (-1), .string ⟨#[]⟩, .int .i64 0, .slice A2 3 c2] 33)) := bw3.trans (Below.mono hs34 bw3.size)
  have hn4 := next_any 1 0 0 3 (-1) 0 ⟨#[]⟩ A2 3 c2 lsA ⟨#[97, 100, 116]⟩ ⟨#[]⟩ ⟨#[]⟩ ⟨#[]⟩ ⟨#[]⟩ false 0 0 (some ⟨g, 0, none⟩) 3 3 dsA _ _ hl4 d4 (Nat.le_refl _) (by simp [maxLen]) (by simp) chainA
  rw [nextA_eq] at hn4
  have N4 := Lib.hid hn4
  have L4 := Lib.hid hl4
  have D4 := Lib.hid d4
  have K4 := Lib.hid k4
  have K34 := Lib.hid k34
  have B4 := Lib.hid bw4
  clear hn4 hl4 d4 k4 bw4 k34 hs34 k3 b3 d3 bw3 hl3 hz hown hb3 K1 B1 D1 L1
  have c3 := fun i => K34.out.cell i
  go_wp2_with fail
  refine N4.out.mono ?_
  rintro x w5 ⟨va, rfl, ha, hb5⟩
  obtain ⟨Aa, ca, hv, hs5⟩ := ha.reads
  have hv : va = .slice Aa 2 ca := hv
  subst hv
  have hs5 : StrsAt w5 w5.heap.size Aa 2 [nA, nX] := hs5
  have hst : Stays (w3.alloc (.cells #[.int .i64 1, .int .i64 0, .int .i64 0, .int .i64 3, .int .i64 (-1), .string ⟨#[]⟩, .int .i64 0, .slice A2 3 c2] 33)) w5 := hb5
  have KC := Lib.hid (K34.out.stays hst)
  have KR := Lib.hid (K4.out.stays hst)
  have L5 := Lib.hid ((L4.out.below hst).more hst.size)
  have D5 := Lib.hid ((D4.out.below hst).more hst.size)
  have B5 := Lib.hid (B4.out.trans (hst.mono B4.out.size))
  have S5 := Lib.hid hs5
  clear hst hb5 ha hs5 N4 L4 D4 K4 K34 B4 c3
  go_wp2_with fail
  refine wp_region_free 5 [] Stays (fun | 3 => some fun v w' => ∃ A c, v = .agg #[.int .i64 1, .int .i64 0, .int .i64 0, .int .i64 3, .int .i64 (-1), .string ⟨#[]⟩, .int .i64 0, .slice A 3 c] ∧ LegsAt w' w'.heap.size A 3 lsB | 4 => some fun v w' => ∃ A c, v = .slice A 2 c ∧ StrsAt w' w'.heap.size A 2 [nB, nX] | _ => none) (by kernel_rfl) (by kernel_rfl) Stays.refl (by simp) (Stays.draw _) Stays.trans ?_ ?_
  · intro j φ v x y hB hp hxy
    split at hB <;> cases hB
    · obtain ⟨A, c, hg, hb⟩ := hp
      exact ⟨A, c, hg, (hb.below hxy).more hxy.size⟩
    · obtain ⟨A, c, hg, hb⟩ := hp
      exact ⟨A, c, hg, (hb.below hxy).more hxy.size⟩
  · apply wpFree_pure rfl rfl
    · intro vs wx hk K hK
      have c3 := fun i => (KC.out.stays hk.1).cell i
      go_simp
      exact hK _ (Stays.refl _)
    intro KK hKK
    go_simp
    refine hKK _ ?_
    clear hKK KK
    apply wpFree_pure rfl rfl
    · intro vs wx hk K hK
      have c3 := fun i => (KC.out.stays hk.1).cell i
      go_simp
      exact hK _ (Stays.refl _)
    intro KK hKK
    go_simp
    refine hKK _ ?_
    clear hKK KK
    apply wpFree_pure rfl rfl
    · intro vs wx hk K hK
      have c3 := fun i => (KR.out.stays hk.1).cell i
      go_simp
      exact hK _ (Stays.refl _)
    intro KK hKK
    go_simp
    refine hKK _ ?_
    clear hKK KK
    refine wpFree_fact rfl ?_ ?_
    · intro vs wx hk K hK
      go_simp
      refine (sent_any ⟨#[97, 100, 116]⟩ ⟨#[]⟩ ⟨#[]⟩ ⟨#[]⟩ ⟨#[]⟩ false 0 0 (some ⟨g, 0, none⟩) 3 3 dsA 1 0 0 3 (-1) 0 ⟨#[]⟩ A2 3 c2 lsA nA ⟨#[]⟩ 5 wx.heap.size wx ((L5.out.below hk.1).more hk.1.size) ((D5.out.below hk.1).more hk.1.size) (Nat.le_refl _) (by simp) (by simp) chainA triesA (Nat.zero_le _)).mono ?_
      rw [lsB_eq, doneB_eq]
      rintro x wy ⟨v, rfl, hown, hby⟩
      obtain ⟨A3, c3, hv, hl⟩ := hown.reads
      have hv : v = .slice A3 3 c3 := hv
      subst hv
      exact ⟨_, rfl, hK _ _ hby ⟨A3, c3, rfl, hl⟩⟩
    intro KK hKK
    go_simp
    refine hKK _ ?_
    clear hKK KK
    refine wpFree_fact rfl ?_ ?_
    · intro vs wx hk K hK
      obtain ⟨A3, c3, hv, hl⟩ := hk.2 3 _ rfl (by kernel_rfl)
      go_simp
      refine (next_any 1 0 0 3 (-1) 0 ⟨#[]⟩ A3 3 c3 lsB ⟨#[97, 100, 116]⟩ ⟨#[]⟩ ⟨#[]⟩ ⟨#[]⟩ ⟨#[]⟩ false 0 0 (some ⟨g, 0, none⟩) 3 3 dsA _ wx hl ((D5.out.below hk.1).more hk.1.size) (Nat.le_refl _) (by simp [maxLen]) (by simp) chainA).mono ?_
      rw [nextB_eq]
      rintro x wy ⟨v, rfl, hown, hby⟩
      obtain ⟨A4, c4, hv, hl⟩ := hown.reads
      have hv : v = .slice A4 2 c4 := hv
      subst hv
      exact ⟨_, rfl, hK _ _ hby ⟨A4, c4, rfl, hl⟩⟩
    intro KK hKK
    go_simp
    refine hKK _ ?_
    clear hKK KK
    refine wpFree_nil ?_
    intro vs w6 hs6 hf6
    obtain ⟨A4, c4, hg, hs4⟩ := hf6 4 _ (by omega) rfl
    obtain ⟨ad1, s1, e1, -, h1, c1⟩ := S5.out.in_ (k := 1) (by omega)
    cases h1
    subst e1
    obtain ⟨ad2, s2, e2, hlt2, h2, c2'⟩ := hs4.in_ (k := 0) (by omega)
    cases h2
    subst e2
    obtain ⟨ad1', s1', e1', hlt1, -, -⟩ := S5.out.in_ (k := 1) (by omega)
    cases e1'
    have c1 : w6.cell? ⟨ad1.block, ad1.off + 1, none⟩ = some (.string ⟨#[120]⟩) := (hs6.cell (p := ad1.add 1) (by rw [block_of_add]; exact hlt1)).trans c1
    have c2' : w6.cell? ad2 = some (.string ⟨#[98]⟩) := c2'
    have c5 := fun i => (KC.out.stays hs6).cell i
    have c6 := fun i => (KR.out.stays hs6).cell i
    have L6 := Lib.hid ((L5.out.below hs6).more hs6.size)
    have B6 := Lib.hid (B5.out.trans (hs6.mono B5.out.size))
    intro KK hKK
    rw [hg]
    clear hf6 hs6 hs4
    simp only [List.drop_succ_cons, List.drop_zero]
    go_wp2_with fail
    refine (forward_any 1 0 0 3 (-1) 0 ⟨#[]⟩ A2 3 c2 lsA 1 0 0 3 (-1) 0 ⟨#[]⟩ A2 3 c2 lsA w6.heap.size w6 L6.out L6.out (Nat.le_refl _) (by simp [maxLen]) (by simp [maxLen]) statA statA).mono ?_
    rw [fwdA_eq]
    rintro x w7 ⟨rfl, hb7⟩
    have B7 := Lib.hid (B6.out.trans (hb7.mono B6.out.size))
    go_wp2
    go_ret
    exact ⟨rfl, B7.out⟩
end Go.Proofs.Ytjbhlojfmcldjab
