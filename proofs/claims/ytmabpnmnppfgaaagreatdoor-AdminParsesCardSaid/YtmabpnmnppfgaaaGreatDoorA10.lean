/- Part A10 of the proof: the statement that is proved stands in the text that ends with its name. No conditions beyond the card's. -/
import Derived.Test.YtmabpnmnppfgaaaGreatDoorC1
import Derived.Test.YtmabpnmnppfgaaaGreatDoorA9
namespace Go.Proofs.YtmabpnmnppfgaaaGreatDoor
set_option linter.unusedVariables false
open Go Go.RowKit Go.BigFrame
set_option maxRecDepth 100000 in
set_option maxHeartbeats 8000000 in
theorem print_any (w : World) (word name data : ByteArray) (A : Option Addr) (m cp : Nat) (ns : List Int) (hI : IntsIn w w.heap.size A m ns) (hr : ∀ n ∈ ns, -9223372036854775808 ≤ n ∧ n ≤ 9223372036854775807) :
    Calls Tryz.prog 9 #[.agg #[.string word, .slice A m cp, .string name, .string data]] w fun e w' => PrintOut ⟨word.data.toList, ns, name.data.toList, data.data.toList⟩ e ∧ Below w.heap.size w w' := by
  obtain ⟨⟨sd, sn, sm⟩, hsd⟩ : ∃ sd : Ad.Shape, sd = (Dk.get Ad.shapeL word).getD (false, false, false) := ⟨_, rfl⟩
  obtain ⟨is, his⟩ : ∃ is, is = (Dk.get Ad.shapeL word).isSome := ⟨_, rfl⟩
  have HSH := Lib.hid (show Ad.shapeF word.data.toList = if is = true then some (sd, sn, sm) else none by
    unfold Ad.shapeF
    rw [his, hsd]
    show Dk.get Ad.shapeL word = _
    cases Dk.get Ad.shapeL word <;> rfl)
  have HLK := Lib.hid (show ∀ (W : World) (b : Nat), MapL encS W b Ad.shapeL → (Instr.lookup 77 (.map (some b)) (.string word) true).run Tryz.prog W = .ok (.tuple #[.agg #[.bool sd, .bool sn, .bool sm], .bool is]) W from fun W b h => by
    rw [shape_look h, ← hsd, ← his]
    rfl)
  clear hsd his
  have HI := Lib.hid hI
  have HR := Lib.hid hr
  clear hI hr
  go_enter Tryz.func9, Tryz.ntmps9
  go_wp2_with fail
  obtain ⟨w2, hw2⟩ : ∃ w2, w2 = w.alloc (.cells #[.string word, .slice A m cp, .string name, .string data] 24) := ⟨_, rfl⟩
  rw [← hw2]
  have E2 := Lib.hid (show Blk w2 w.heap.size 24 #[.string word, .slice A m cp, .string name, .string data] from hw2 ▸ Blk.new w _ _)
  have B2 := Lib.hid (show Below w.heap.size w w2 from hw2 ▸ (Below.refl _ w).alloc (Nat.le_refl _) _)
  have hz2 : w.heap.size + 1 ≤ w2.heap.size := by rw [hw2]; simp
  clear hw2
  refine wp_region_free 8 [6] Stays (fun | 0 => some fun v w' => ∃ b, v = .map (some b) ∧ MapL encS w' b Ad.shapeL | 7 => some fun v w' => ∃ j, v = .pointer (some ⟨j, 0, none⟩) ∧ w2.heap.size ≤ j ∧ Blk w' j 75 #[.bool false, .bool false, .bool false] | _ => none) (by kernel_rfl) (by kernel_rfl) Stays.refl (by simp) (Stays.draw _) Stays.trans ?_ ?_
  · intro j φ v x y hB hp hxy
    split at hB <;> cases hB
    · obtain ⟨b, hv, hm⟩ := hp
      exact ⟨b, hv, hm.stays hxy⟩
    · obtain ⟨j, hj, h1, hb⟩ := hp
      exact ⟨j, hj, h1, hb.stays hxy⟩
  · refine wpFree_fact rfl ?_ ?_
    · intro vs wx hk K hK
      go_simp
      exact (shapes_any wx).mono fun x w' ⟨b, hx, hm, _, _, hb'⟩ => ⟨_, hx, hK _ _ hb' ⟨b, rfl, hm⟩⟩
    intro KK hKK
    go_simp
    refine hKK _ ?_
    clear hKK KK
    apply wpFree_pure rfl rfl
    · intro vs wx hk K hK
      go_simp
      exact hK _ (Stays.refl _)
    intro KK hKK
    go_simp
    refine hKK _ ?_
    clear hKK KK
    apply wpFree_pure rfl rfl
    · intro vs wx hk K hK
      have c0 := fun i => (E2.out.stays hk.1).cell i
      go_simp
      exact hK _ (Stays.refl _)
    intro KK hKK
    go_simp
    refine hKK _ ?_
    clear hKK KK
    apply wpFree_pure rfl rfl
    · intro vs wx hk K hK
      obtain ⟨b, hv, hm⟩ := hk.2 0 _ rfl (by kernel_rfl)
      have hlk := HLK.out _ _ hm
      go_simp
      exact hK _ (Stays.refl _)
    intro KK hKK
    go_simp
    refine hKK _ ?_
    clear hKK KK
    apply wpFree_pure rfl rfl
    · intro vs wx hk K hK
      go_simp
      exact hK _ (Stays.refl _)
    intro KK hKK
    go_simp
    refine hKK _ ?_
    clear hKK KK
    apply wpFree_pure rfl rfl
    · intro vs wx hk K hK
      go_simp
      exact hK _ (Stays.refl _)
    intro KK hKK
    go_simp
    refine hKK _ ?_
    clear hKK KK
    apply wpFree_late rfl rfl
    · intro vs wx K hK
      go_simp
      exact hK
    intro KK hKK
    go_simp
    refine hKK _ ?_
    clear hKK KK
    refine wpFree_fact rfl ?_ ?_
    · intro vs wx hk K hK
      go_simp
      exact hK _ _ (Stays.alloc _ _) ⟨_, rfl, hk.1.size, Blk.new _ _ _⟩
    intro KK hKK
    go_simp
    refine hKK _ ?_
    clear hKK KK
    refine wpFree_nil ?_
    intro vs w5 hs5 hf5
    obtain ⟨bm, hbm, -⟩ := hf5 0 _ (by omega) rfl
    obtain ⟨j4, hj4, hj4ge, hb4⟩ := hf5 7 _ (by omega) rfl
    intro KK hKK
    rw [hbm, hj4]
    simp only [List.drop_succ_cons, List.drop_zero]
    refine wpList_store_blk (cs' := #[.bool sd, .bool sn, .bool sm]) rfl 75 (.tmp 4) (.tmp 14) rfl j4 rfl rfl hb4 rfl (by kernel_rfl) (by simp [Value.oneCell']) ?_
    intro w7 hb7 hg7
    have E7 := Lib.hid ((E2.out.stays hs5).grown hg7 (by simp; omega))
    have S7 := Lib.hid hb7
    have B7 := Lib.hid ((B2.out.trans (Below.mono hs5 B2.out.size)).grown hg7 (by have := hs5.size; omega) (by rintro x hx; cases hx; omega))
    have c7 := fun i => E7.out.cell i
    have s7 := fun i => S7.out.cell i
    clear hs5 hf5 hb4 hb7 hg7 E2 B2 hj4 hbm vs w5 HLK
    cases is with
    | false =>
      have hno := Lib.hid (Ad.no_shape (c := ⟨word.data.toList, ns, name.data.toList, data.data.toList⟩) (by rw [HSH.out]; rfl))
      cases sm with
      | false =>
        go_wp2_with fail
        go_ret2
        exact ⟨.inr ⟨hno.out, 100, by decide, rfl⟩, B7.out⟩
      | true =>
        go_wp2_with fail
        go_ret2
        exact ⟨.inr ⟨hno.out, 100, by decide, rfl⟩, B7.out⟩
    | true =>
      rw [if_pos rfl] at HSH
      obtain ⟨-, hsc⟩ := Ad.shape_word HSH.out
      have HL := Lib.hid HI.out.1
      have hcases : (sd = true ∧ sn = false ∧ sm = false) ∨ (sd = false ∧ sn = false ∧ sm = false) ∨ (sd = false ∧ sn = true ∧ sm = false) ∨ (sd = false ∧ sn = true ∧ sm = true) := by
        simp only [Prod.mk.injEq] at hsc
        exact hsc
      clear hsc
      rcases hcases with ⟨rfl, rfl, rfl⟩ | ⟨rfl, rfl, rfl⟩ | ⟨rfl, rfl, rfl⟩ | ⟨rfl, rfl, rfl⟩
      · skip
        by_cases hne : name.size = 0
        rotate_left
        · have hnn := text_ne hne
          go_wp2_with fail
          go_ret2
          exact ⟨.inr ⟨Ad.no_fit HSH.out (fun hf => hne (by have := congrArg List.length (hf.2.1 rfl); simpa using this)), 100, by decide, rfl⟩, B7.out⟩
        obtain rfl := text_empty hne
        clear hne
        by_cases hm : m = 0
        rotate_left
        · have q1 : ((m : Int) != 0) = true := by rw [bne_iff_ne]; omega
          go_wp2_with fail
          go_ret2
          exact ⟨.inr ⟨Ad.no_fit HSH.out (fun hf => hm (by have h3 := hf.2.2.1; have h4 := HL.out; rw [h4] at h3; simpa using h3)), 100, by decide, rfl⟩, B7.out⟩
        subst hm
        by_cases hd4 : data.size ≤ 4096
        rotate_left
        · have hx : (4096 : Int) < (data.size : Int) := by omega
          go_wp2_with fail
          go_ret2
          exact ⟨.inr ⟨Ad.no_fit HSH.out (fun hf => hd4 (by have h3 := hf.2.2.2.1; simpa using h3)), 100, by decide, rfl⟩, B7.out⟩
        have hdlt : ¬ (4096 : Int) < (data.size : Int) := by omega
        obtain ⟨it, J1, J2, J3, J4⟩ := info_parts infoStr
        have hE7 := E7.out.lt
        have hS7 := S7.out.lt
        have T7 := Lib.hid ((Below.refl w7.heap.size w7).alloc (Nat.le_refl _) (.cells #[.string word] 9))
        have O7 := Lib.hid (own_one (B := w7.heap.size) (Blk.new w7 9 #[.string word]) (Nat.le_refl _))
        have c7b := (E7.out.below T7.out hE7).cell
        have s7b := (S7.out.below T7.out hS7).cell
        go_wp2_with fail
        obtain ⟨w8, hw8⟩ : ∃ w8, w8 = w7.alloc (.cells #[.string word] 9) := ⟨_, rfl⟩
        rw [← hw8]
        rw [← hw8] at T7 O7
        clear hw8 c7b s7b c7 s7
        have T8 := T7
        have O8 := O7
        clear T7 O7
        refine (quote_any data _ (by omega)).mono ?_
        rintro e w9 ⟨rfl, hb9⟩
        have T9 := Lib.hid (T8.out.trans (hb9.mono T8.out.size))
        have O9 := Lib.hid (O8.out.below hb9)
        have c9 := (E7.out.below T9.out hE7).cell
        have s9 := (S7.out.below T9.out hS7).cell
        clear hb9 T8 O8
        obtain ⟨q, hq⟩ : ∃ q_ : ByteArray, q_ = ⟨(Ad.quote data.data.toList).toArray⟩ := ⟨_, rfl⟩
        rw [← hq]
        have Hq := Lib.hid (show q.data.toList = Ad.quote data.data.toList by rw [hq])
        clear hq
        go_wp2_with (at_builtin; refine wpList_append_E rfl (.tmp 64) (.tmp 68) _ rfl it (.string ⟨#[]⟩) 16 Tryz.underlying81 J1 J2 J3 J4 rfl rfl (O9.out.alloc _) ⟨_, 0, none⟩ 1 1 [q] rfl rfl (news_str _ _ _ (by simp)) (by simp) (by omega) (by have := T9.out.size; simp; omega) ?_; intro v10 w10 ho10 hb10 hg10 hw10; have T10 := Lib.hid ((T9.out.alloc T9.out.size _).trans hb10); have O10 := Lib.hid ho10; have c10 := (E7.out.below T10.out hE7).cell; have s10 := (S7.out.below T10.out hS7).cell; clear ho10 hb10 hg10 hw10)
        have hf : Ad.fits ⟨word.data.toList, ns, (⟨#[]⟩ : ByteArray).data.toList, data.data.toList⟩ (true, false, false) := ⟨(fun h => by cases h), (fun _ => rfl), HL.out, by show data.data.toList.length ≤ 4096; simpa using hd4, by simp, (fun h => by cases h)⟩
        have hout : Lib.join (([word] ++ [q] : List ByteArray).map (·.data.toList)) [32] = Ad.outF ⟨word.data.toList, ns, (⟨#[]⟩ : ByteArray).data.toList, data.data.toList⟩ (true, false, false) := by show Lib.join [word.data.toList, q.data.toList] [32] = _; rw [Hq.out]; rfl
        have hol := Ad.out_len HSH.out hf
        refine (join_any O10.out (by simp) (by simp) (by show (Lib.join (([word] ++ [q] : List ByteArray).map (·.data.toList)) [32]).length ≤ _; rw [hout]; omega)).mono ?_
        rintro e w11 ⟨rfl, hb11⟩
        obtain ⟨o, ho⟩ : ∃ o : ByteArray, o = ⟨(Lib.join (([word] ++ [q] : List ByteArray).map (·.data.toList)) [32]).toArray⟩ := ⟨_, rfl⟩
        have HO := Lib.hid (show o.data.toList = Ad.outF ⟨word.data.toList, ns, (⟨#[]⟩ : ByteArray).data.toList, data.data.toList⟩ (true, false, false) by rw [ho, ← hout])
        have ho2 : ¬ (65536 : Int) < (o.size : Int) := by
          have : o.size = o.data.toList.length := by simp
          rw [this, HO.out]
          omega
        have HF := Lib.hid hf
        have HB := Lib.hid (B7.out.trans ((T10.out.trans (hb11.mono T10.out.size)).mono B7.out.size))
        rw [← ho]
        clear hf hout hol ho hb11
        go_wp2_with fail
        go_ret2
        exact ⟨.inl ⟨o, ⟨_, HSH.out, HF.out, HO.out, by rw [HO.out]; exact Ad.out_len HSH.out HF.out⟩, rfl⟩, HB.out⟩
      · skip
        by_cases hde : data.size = 0
        rotate_left
        · have hdn := text_ne hde
          go_wp2_with fail
          go_ret2
          exact ⟨.inr ⟨Ad.no_fit HSH.out (fun hf => hde (by have := congrArg List.length (hf.1 rfl); simpa using this)), 100, by decide, rfl⟩, B7.out⟩
        obtain rfl := text_empty hde
        clear hde
        by_cases hne : name.size = 0
        rotate_left
        · have hnn := text_ne hne
          go_wp2_with fail
          go_ret2
          exact ⟨.inr ⟨Ad.no_fit HSH.out (fun hf => hne (by have := congrArg List.length (hf.2.1 rfl); simpa using this)), 100, by decide, rfl⟩, B7.out⟩
        obtain rfl := text_empty hne
        clear hne
        by_cases hm : m = 0
        rotate_left
        · have q1 : ((m : Int) != 0) = true := by rw [bne_iff_ne]; omega
          go_wp2_with fail
          go_ret2
          exact ⟨.inr ⟨Ad.no_fit HSH.out (fun hf => hm (by have h3 := hf.2.2.1; have h4 := HL.out; rw [h4] at h3; simpa using h3)), 100, by decide, rfl⟩, B7.out⟩
        subst hm
        obtain ⟨it, J1, J2, J3, J4⟩ := info_parts infoStr
        have hE7 := E7.out.lt
        have hS7 := S7.out.lt
        have T7 := Lib.hid ((Below.refl w7.heap.size w7).alloc (Nat.le_refl _) (.cells #[.string word] 9))
        have O7 := Lib.hid (own_one (B := w7.heap.size) (Blk.new w7 9 #[.string word]) (Nat.le_refl _))
        have c7b := (E7.out.below T7.out hE7).cell
        have s7b := (S7.out.below T7.out hS7).cell
        go_wp2_with fail
        obtain ⟨w8, hw8⟩ : ∃ w8, w8 = w7.alloc (.cells #[.string word] 9) := ⟨_, rfl⟩
        rw [← hw8]
        rw [← hw8] at T7 O7
        clear hw8 c7b s7b c7 s7
        have T8 := T7
        have O8 := O7
        clear T7 O7
        have hf : Ad.fits ⟨word.data.toList, ns, (⟨#[]⟩ : ByteArray).data.toList, (⟨#[]⟩ : ByteArray).data.toList⟩ (false, false, false) := ⟨(fun _ => rfl), (fun _ => rfl), HL.out, by simp, by simp, (fun h => by cases h)⟩
        have hout : Lib.join (([word] : List ByteArray).map (·.data.toList)) [32] = Ad.outF ⟨word.data.toList, ns, (⟨#[]⟩ : ByteArray).data.toList, (⟨#[]⟩ : ByteArray).data.toList⟩ (false, false, false) := by rfl
        have hol := Ad.out_len HSH.out hf
        refine (join_any O8.out (by simp) (by simp) (by show (Lib.join (([word] : List ByteArray).map (·.data.toList)) [32]).length ≤ _; rw [hout]; omega)).mono ?_
        rintro e w9 ⟨rfl, hb9⟩
        obtain ⟨o, ho⟩ : ∃ o : ByteArray, o = ⟨(Lib.join (([word] : List ByteArray).map (·.data.toList)) [32]).toArray⟩ := ⟨_, rfl⟩
        have HO := Lib.hid (show o.data.toList = Ad.outF ⟨word.data.toList, ns, (⟨#[]⟩ : ByteArray).data.toList, (⟨#[]⟩ : ByteArray).data.toList⟩ (false, false, false) by rw [ho, ← hout])
        have ho2 : ¬ (65536 : Int) < (o.size : Int) := by
          have : o.size = o.data.toList.length := by simp
          rw [this, HO.out]
          omega
        have HF := Lib.hid hf
        have HB := Lib.hid (B7.out.trans ((T8.out.trans (hb9.mono T8.out.size)).mono B7.out.size))
        rw [← ho]
        clear hf hout hol ho hb9
        go_wp2_with fail
        go_ret2
        exact ⟨.inl ⟨o, ⟨_, HSH.out, HF.out, HO.out, by rw [HO.out]; exact Ad.out_len HSH.out HF.out⟩, rfl⟩, HB.out⟩
      · skip
        by_cases hde : data.size = 0
        rotate_left
        · have hdn := text_ne hde
          go_wp2_with fail
          go_ret2
          exact ⟨.inr ⟨Ad.no_fit HSH.out (fun hf => hde (by have := congrArg List.length (hf.1 rfl); simpa using this)), 100, by decide, rfl⟩, B7.out⟩
        obtain rfl := text_empty hde
        clear hde
        by_cases hm : m = 0
        rotate_left
        · have q1 : ((m : Int) != 0) = true := by rw [bne_iff_ne]; omega
          go_wp2_with fail
          go_ret2
          exact ⟨.inr ⟨Ad.no_fit HSH.out (fun hf => hm (by have h3 := hf.2.2.1; have h4 := HL.out; rw [h4] at h3; simpa using h3)), 100, by decide, rfl⟩, B7.out⟩
        subst hm
        by_cases hn4 : name.size ≤ 4096
        rotate_left
        · have hx : (4096 : Int) < (name.size : Int) := by omega
          go_wp2_with fail
          go_ret2
          exact ⟨.inr ⟨Ad.no_fit HSH.out (fun hf => hn4 (by have h3 := hf.2.2.2.2.1; simpa using h3)), 100, by decide, rfl⟩, B7.out⟩
        have hnlt : ¬ (4096 : Int) < (name.size : Int) := by omega
        obtain ⟨it, J1, J2, J3, J4⟩ := info_parts infoStr
        have hE7 := E7.out.lt
        have hS7 := S7.out.lt
        have hkn := fun W => isName_any name W (by omega)
        obtain ⟨isn, hisn⟩ : ∃ b, b = Ad.isName name.data.toList := ⟨_, rfl⟩
        have HISN := Lib.hid hisn.symm
        rw [← hisn] at hkn
        have KN := Lib.hid hkn
        clear hkn hisn
        cases isn with
        | true =>
          have T7 := Lib.hid ((Below.refl w7.heap.size w7).alloc (Nat.le_refl _) (.cells #[.string word] 9))
          have O7 := Lib.hid (own_one (B := w7.heap.size) (Blk.new w7 9 #[.string word]) (Nat.le_refl _))
          have c7b := (E7.out.below T7.out hE7).cell
          have s7b := (S7.out.below T7.out hS7).cell
          go_wp2_with fail
          obtain ⟨w8, hw8⟩ : ∃ w8, w8 = w7.alloc (.cells #[.string word] 9) := ⟨_, rfl⟩
          rw [← hw8]
          rw [← hw8] at T7 O7
          clear hw8 c7b s7b c7 s7
          have T8 := T7
          have O8 := O7
          clear T7 O7
          refine (KN.out _).mono ?_
          rintro e w_ ⟨rfl, rfl⟩
          have c8 := (E7.out.below T8.out hE7).cell
          have s8 := (S7.out.below T8.out hS7).cell
          go_wp2_with (at_builtin; refine wpList_append_E rfl (.tmp 78) (.tmp 81) _ rfl it (.string ⟨#[]⟩) 16 Tryz.underlying81 J1 J2 J3 J4 rfl rfl (O8.out.alloc _) ⟨_, 0, none⟩ 1 1 [name] rfl rfl (news_str _ _ _ (by simp)) (by simp) (by omega) (by have := T8.out.size; simp; omega) ?_; intro v9 w9 ho9 hb9 hg9 hw9; have T9 := Lib.hid ((T8.out.alloc T8.out.size _).trans hb9); have O9 := Lib.hid ho9; have c9 := (E7.out.below T9.out hE7).cell; have s9 := (S7.out.below T9.out hS7).cell; have i9 := fun (q : Addr) (h : q.block < w7.heap.size) => T9.out.cell (p := q) h; clear ho9 hb9 hg9 hw9)
          have hf : Ad.fits ⟨word.data.toList, ns, name.data.toList, (⟨#[]⟩ : ByteArray).data.toList⟩ (false, true, false) := ⟨(fun _ => rfl), (fun h => by cases h), HL.out, by simp, by show name.data.toList.length ≤ 4096; simpa using hn4, (fun h => by cases h)⟩
          have hout : Lib.join (([word] ++ [name] : List ByteArray).map (·.data.toList)) [32] = Ad.outF ⟨word.data.toList, ns, name.data.toList, (⟨#[]⟩ : ByteArray).data.toList⟩ (false, true, false) := by
            have hnm := show Ad.nameW name.data.toList = name.data.toList from by unfold Ad.nameW; rw [HISN.out]; rfl
            show Lib.join [word.data.toList, name.data.toList] [32] = Lib.join [word.data.toList, Ad.nameW name.data.toList] [32]
            rw [hnm]
          have hol := Ad.out_len HSH.out hf
          refine (join_any O9.out (by simp) (by simp) (by show (Lib.join (([word] ++ [name] : List ByteArray).map (·.data.toList)) [32]).length ≤ _; rw [hout]; omega)).mono ?_
          rintro e w10 ⟨rfl, hb10⟩
          obtain ⟨o, ho⟩ : ∃ o : ByteArray, o = ⟨(Lib.join (([word] ++ [name] : List ByteArray).map (·.data.toList)) [32]).toArray⟩ := ⟨_, rfl⟩
          have HO := Lib.hid (show o.data.toList = Ad.outF ⟨word.data.toList, ns, name.data.toList, (⟨#[]⟩ : ByteArray).data.toList⟩ (false, true, false) by rw [ho, ← hout])
          have ho2 : ¬ (65536 : Int) < (o.size : Int) := by
            have : o.size = o.data.toList.length := by simp
            rw [this, HO.out]
            omega
          have HF := Lib.hid hf
          have HB := Lib.hid (B7.out.trans ((T9.out.trans (hb10.mono T9.out.size)).mono B7.out.size))
          rw [← ho]
          clear hf hout hol ho hb10
          go_wp2_with fail
          go_ret2
          exact ⟨.inl ⟨o, ⟨_, HSH.out, HF.out, HO.out, by rw [HO.out]; exact Ad.out_len HSH.out HF.out⟩, rfl⟩, HB.out⟩
        | false =>
          have T7 := Lib.hid ((Below.refl w7.heap.size w7).alloc (Nat.le_refl _) (.cells #[.string word] 9))
          have O7 := Lib.hid (own_one (B := w7.heap.size) (Blk.new w7 9 #[.string word]) (Nat.le_refl _))
          have c7b := (E7.out.below T7.out hE7).cell
          have s7b := (S7.out.below T7.out hS7).cell
          go_wp2_with fail
          obtain ⟨w8, hw8⟩ : ∃ w8, w8 = w7.alloc (.cells #[.string word] 9) := ⟨_, rfl⟩
          rw [← hw8]
          rw [← hw8] at T7 O7
          clear hw8 c7b s7b c7 s7
          have T8 := T7
          have O8 := O7
          clear T7 O7
          refine (KN.out _).mono ?_
          rintro e w_ ⟨rfl, rfl⟩
          have c8 := (E7.out.below T8.out hE7).cell
          have s8 := (S7.out.below T8.out hS7).cell
          go_wp2_with fail
          refine (quote_any name _ (by omega)).mono ?_
          rintro e w9 ⟨rfl, hb9⟩
          have T9 := Lib.hid (T8.out.trans (hb9.mono T8.out.size))
          have O9 := Lib.hid (O8.out.below hb9)
          have c9 := (E7.out.below T9.out hE7).cell
          have s9 := (S7.out.below T9.out hS7).cell
          clear hb9 T8 O8
          obtain ⟨q, hq⟩ : ∃ q_ : ByteArray, q_ = ⟨(Ad.quote name.data.toList).toArray⟩ := ⟨_, rfl⟩
          rw [← hq]
          have Hq := Lib.hid (show q.data.toList = Ad.quote name.data.toList by rw [hq])
          clear hq
          go_wp2_with (at_builtin; refine wpList_append_E rfl (.tmp 86) (.tmp 90) _ rfl it (.string ⟨#[]⟩) 16 Tryz.underlying81 J1 J2 J3 J4 rfl rfl (O9.out.alloc _) ⟨_, 0, none⟩ 1 1 [q] rfl rfl (news_str _ _ _ (by simp)) (by simp) (by omega) (by have := T9.out.size; simp; omega) ?_; intro v10 w10 ho10 hb10 hg10 hw10; have T10 := Lib.hid ((T9.out.alloc T9.out.size _).trans hb10); have O10 := Lib.hid ho10; have c10 := (E7.out.below T10.out hE7).cell; have s10 := (S7.out.below T10.out hS7).cell; have i10 := fun (q : Addr) (h : q.block < w7.heap.size) => T10.out.cell (p := q) h; clear ho10 hb10 hg10 hw10)
          have hf : Ad.fits ⟨word.data.toList, ns, name.data.toList, (⟨#[]⟩ : ByteArray).data.toList⟩ (false, true, false) := ⟨(fun _ => rfl), (fun h => by cases h), HL.out, by simp, by show name.data.toList.length ≤ 4096; simpa using hn4, (fun h => by cases h)⟩
          have hout : Lib.join (([word] ++ [q] : List ByteArray).map (·.data.toList)) [32] = Ad.outF ⟨word.data.toList, ns, name.data.toList, (⟨#[]⟩ : ByteArray).data.toList⟩ (false, true, false) := by
            have hnm := show Ad.nameW name.data.toList = q.data.toList from by unfold Ad.nameW; rw [HISN.out]; rw [Hq.out]; rfl
            show Lib.join [word.data.toList, q.data.toList] [32] = Lib.join [word.data.toList, Ad.nameW name.data.toList] [32]
            rw [hnm]
          have hol := Ad.out_len HSH.out hf
          refine (join_any O10.out (by simp) (by simp) (by show (Lib.join (([word] ++ [q] : List ByteArray).map (·.data.toList)) [32]).length ≤ _; rw [hout]; omega)).mono ?_
          rintro e w11 ⟨rfl, hb11⟩
          obtain ⟨o, ho⟩ : ∃ o : ByteArray, o = ⟨(Lib.join (([word] ++ [q] : List ByteArray).map (·.data.toList)) [32]).toArray⟩ := ⟨_, rfl⟩
          have HO := Lib.hid (show o.data.toList = Ad.outF ⟨word.data.toList, ns, name.data.toList, (⟨#[]⟩ : ByteArray).data.toList⟩ (false, true, false) by rw [ho, ← hout])
          have ho2 : ¬ (65536 : Int) < (o.size : Int) := by
            have : o.size = o.data.toList.length := by simp
            rw [this, HO.out]
            omega
          have HF := Lib.hid hf
          have HB := Lib.hid (B7.out.trans ((T10.out.trans (hb11.mono T10.out.size)).mono B7.out.size))
          rw [← ho]
          clear hf hout hol ho hb11
          go_wp2_with fail
          go_ret2
          exact ⟨.inl ⟨o, ⟨_, HSH.out, HF.out, HO.out, by rw [HO.out]; exact Ad.out_len HSH.out HF.out⟩, rfl⟩, HB.out⟩
      · skip
        by_cases hde : data.size = 0
        rotate_left
        · have hdn := text_ne hde
          go_wp2_with fail
          go_ret2
          exact ⟨.inr ⟨Ad.no_fit HSH.out (fun hf => hde (by have := congrArg List.length (hf.1 rfl); simpa using this)), 100, by decide, rfl⟩, B7.out⟩
        obtain rfl := text_empty hde
        clear hde
        by_cases hm : m = 1
        rotate_left
        · have q1 : ((m : Int) != 1) = true := by rw [bne_iff_ne]; omega
          go_wp2_with fail
          go_ret2
          exact ⟨.inr ⟨Ad.no_fit HSH.out (fun hf => hm (by have h3 := hf.2.2.1; have h4 := HL.out; rw [h4] at h3; simpa using h3)), 100, by decide, rfl⟩, B7.out⟩
        subst hm
        by_cases hn4 : name.size ≤ 4096
        rotate_left
        · have hx : (4096 : Int) < (name.size : Int) := by omega
          go_wp2_with fail
          go_ret2
          exact ⟨.inr ⟨Ad.no_fit HSH.out (fun hf => hn4 (by have h3 := hf.2.2.2.2.1; simpa using h3)), 100, by decide, rfl⟩, B7.out⟩
        have hnlt : ¬ (4096 : Int) < (name.size : Int) := by omega
        obtain ⟨it, J1, J2, J3, J4⟩ := info_parts infoStr
        have hE7 := E7.out.lt
        have hS7 := S7.out.lt
        obtain ⟨n, rfl⟩ : ∃ n, ns = [n] := List.length_eq_one_iff.1 HL.out
        obtain ⟨ad, rfl, had, hcn⟩ := HI.out.2 (by omega)
        have hcn0 := B7.out.cell (p := ad.add 0) (by rw [block_of_add]; exact had)
        rw [hcn 0 n rfl] at hcn0
        have hadd : ad.add 0 = ad := by unfold Addr.add; rw [if_pos rfl]
        rw [hadd] at hcn0
        have hadl : ad.block < w7.heap.size := by omega
        obtain ⟨hn1, hn2⟩ := HR.out n (by simp)
        have HCN := Lib.hid hcn0
        clear hcn hcn0
        have hkn := fun W => isName_any name W (by omega)
        obtain ⟨isn, hisn⟩ : ∃ b, b = Ad.isName name.data.toList := ⟨_, rfl⟩
        have HISN := Lib.hid hisn.symm
        rw [← hisn] at hkn
        have KN := Lib.hid hkn
        clear hkn hisn
        cases isn with
        | true =>
          have T7 := Lib.hid ((Below.refl w7.heap.size w7).alloc (Nat.le_refl _) (.cells #[.string word] 9))
          have O7 := Lib.hid (own_one (B := w7.heap.size) (Blk.new w7 9 #[.string word]) (Nat.le_refl _))
          have c7b := (E7.out.below T7.out hE7).cell
          have s7b := (S7.out.below T7.out hS7).cell
          go_wp2_with fail
          obtain ⟨w8, hw8⟩ : ∃ w8, w8 = w7.alloc (.cells #[.string word] 9) := ⟨_, rfl⟩
          rw [← hw8]
          rw [← hw8] at T7 O7
          clear hw8 c7b s7b c7 s7
          have T8 := T7
          have O8 := O7
          clear T7 O7
          refine (KN.out _).mono ?_
          rintro e w_ ⟨rfl, rfl⟩
          have c8 := (E7.out.below T8.out hE7).cell
          have s8 := (S7.out.below T8.out hS7).cell
          by_cases hneg : n < 0
          · skip
            go_wp2_with (at_builtin; refine wpList_append_E rfl (.tmp 78) (.tmp 81) _ rfl it (.string ⟨#[]⟩) 16 Tryz.underlying81 J1 J2 J3 J4 rfl rfl (O8.out.alloc _) ⟨_, 0, none⟩ 1 1 [name] rfl rfl (news_str _ _ _ (by simp)) (by simp) (by omega) (by have := T8.out.size; simp; omega) ?_; intro v9 w9 ho9 hb9 hg9 hw9; have T9 := Lib.hid ((T8.out.alloc T8.out.size _).trans hb9); have O9 := Lib.hid ho9; have c9 := (E7.out.below T9.out hE7).cell; have s9 := (S7.out.below T9.out hS7).cell; have i9 := fun (q : Addr) (h : q.block < w7.heap.size) => T9.out.cell (p := q) h; have n9 := (i9 ad hadl).trans HCN.out; clear i9; clear ho9 hb9 hg9 hw9)
            go_ret2
            exact ⟨.inr ⟨Ad.no_fit HSH.out (fun hf => by have h3 := (hf.2.2.2.2.2 rfl).1; simp at h3; omega), 100, by decide, rfl⟩, B7.out.trans (T9.out.mono B7.out.size)⟩
          by_cases hbig : 2147483647 < n
          · skip
            go_wp2_with (at_builtin; refine wpList_append_E rfl (.tmp 78) (.tmp 81) _ rfl it (.string ⟨#[]⟩) 16 Tryz.underlying81 J1 J2 J3 J4 rfl rfl (O8.out.alloc _) ⟨_, 0, none⟩ 1 1 [name] rfl rfl (news_str _ _ _ (by simp)) (by simp) (by omega) (by have := T8.out.size; simp; omega) ?_; intro v9 w9 ho9 hb9 hg9 hw9; have T9 := Lib.hid ((T8.out.alloc T8.out.size _).trans hb9); have O9 := Lib.hid ho9; have c9 := (E7.out.below T9.out hE7).cell; have s9 := (S7.out.below T9.out hS7).cell; have i9 := fun (q : Addr) (h : q.block < w7.heap.size) => T9.out.cell (p := q) h; have n9 := (i9 ad hadl).trans HCN.out; clear i9; clear ho9 hb9 hg9 hw9)
            go_ret2
            exact ⟨.inr ⟨Ad.no_fit HSH.out (fun hf => by have h3 := (hf.2.2.2.2.2 rfl).2; simp at h3; omega), 100, by decide, rfl⟩, B7.out.trans (T9.out.mono B7.out.size)⟩
          have hneg' := hneg
          have hbig' := hbig
          go_wp2_with (at_builtin; refine wpList_append_E rfl (.tmp 78) (.tmp 81) _ rfl it (.string ⟨#[]⟩) 16 Tryz.underlying81 J1 J2 J3 J4 rfl rfl (O8.out.alloc _) ⟨_, 0, none⟩ 1 1 [name] rfl rfl (news_str _ _ _ (by simp)) (by simp) (by omega) (by have := T8.out.size; simp; omega) ?_; intro v9 w9 ho9 hb9 hg9 hw9; have T9 := Lib.hid ((T8.out.alloc T8.out.size _).trans hb9); have O9 := Lib.hid ho9; have c9 := (E7.out.below T9.out hE7).cell; have s9 := (S7.out.below T9.out hS7).cell; have i9 := fun (q : Addr) (h : q.block < w7.heap.size) => T9.out.cell (p := q) h; have n9 := (i9 ad hadl).trans HCN.out; clear i9; clear ho9 hb9 hg9 hw9)
          refine (digits_any n _ (by omega) (by omega)).mono ?_
          rintro e w10 ⟨rfl, hb10⟩
          have T10 := Lib.hid (T9.out.trans (hb10.mono T9.out.size))
          have O10 := Lib.hid (O9.out.below hb10)
          have c10 := (E7.out.below T10.out hE7).cell
          have s10 := (S7.out.below T10.out hS7).cell
          clear hb10 T9 O9
          obtain ⟨dg, hdg⟩ : ∃ q_ : ByteArray, q_ = ⟨(P.digits n).toArray⟩ := ⟨_, rfl⟩
          rw [← hdg]
          have Hdg := Lib.hid (show dg.data.toList = P.digits n by rw [hdg])
          clear hdg
          go_wp2_with (at_builtin; refine wpList_append_E rfl (.tmp 106) (.tmp 112) _ rfl it (.string ⟨#[]⟩) 16 Tryz.underlying81 J1 J2 J3 J4 rfl rfl (O10.out.alloc _) ⟨_, 0, none⟩ 1 1 [dg] rfl rfl (news_str _ _ _ (by simp)) (by simp) (by omega) (by have := T10.out.size; simp; omega) ?_; intro v11 w11 ho11 hb11 hg11 hw11; have T11 := Lib.hid ((T10.out.alloc T10.out.size _).trans hb11); have O11 := Lib.hid ho11; have c11 := (E7.out.below T11.out hE7).cell; have s11 := (S7.out.below T11.out hS7).cell; clear ho11 hb11 hg11 hw11)
          have hf : Ad.fits ⟨word.data.toList, [n], name.data.toList, (⟨#[]⟩ : ByteArray).data.toList⟩ (false, true, true) := ⟨(fun _ => rfl), (fun h => by cases h), rfl, by simp, by show name.data.toList.length ≤ 4096; simpa using hn4, (fun _ => ⟨by show 0 ≤ n; omega, by show n ≤ 2147483647; omega⟩)⟩
          have hout : Lib.join (([word] ++ [name] ++ [dg] : List ByteArray).map (·.data.toList)) [32] = Ad.outF ⟨word.data.toList, [n], name.data.toList, (⟨#[]⟩ : ByteArray).data.toList⟩ (false, true, true) := by
            have hnm := show Ad.nameW name.data.toList = name.data.toList from by unfold Ad.nameW; rw [HISN.out]; rfl
            show Lib.join [word.data.toList, name.data.toList, dg.data.toList] [32] = Lib.join [word.data.toList, Ad.nameW name.data.toList, P.digits n] [32]
            rw [hnm, Hdg.out]
          have hol := Ad.out_len HSH.out hf
          refine (join_any O11.out (by simp) (by simp) (by show (Lib.join (([word] ++ [name] ++ [dg] : List ByteArray).map (·.data.toList)) [32]).length ≤ _; rw [hout]; omega)).mono ?_
          rintro e w12 ⟨rfl, hb12⟩
          obtain ⟨o, ho⟩ : ∃ o : ByteArray, o = ⟨(Lib.join (([word] ++ [name] ++ [dg] : List ByteArray).map (·.data.toList)) [32]).toArray⟩ := ⟨_, rfl⟩
          have HO := Lib.hid (show o.data.toList = Ad.outF ⟨word.data.toList, [n], name.data.toList, (⟨#[]⟩ : ByteArray).data.toList⟩ (false, true, true) by rw [ho, ← hout])
          have ho2 : ¬ (65536 : Int) < (o.size : Int) := by
            have : o.size = o.data.toList.length := by simp
            rw [this, HO.out]
            omega
          have HF := Lib.hid hf
          have HB := Lib.hid (B7.out.trans ((T11.out.trans (hb12.mono T11.out.size)).mono B7.out.size))
          rw [← ho]
          clear hf hout hol ho hb12
          go_wp2_with fail
          go_ret2
          exact ⟨.inl ⟨o, ⟨_, HSH.out, HF.out, HO.out, by rw [HO.out]; exact Ad.out_len HSH.out HF.out⟩, rfl⟩, HB.out⟩
        | false =>
          have T7 := Lib.hid ((Below.refl w7.heap.size w7).alloc (Nat.le_refl _) (.cells #[.string word] 9))
          have O7 := Lib.hid (own_one (B := w7.heap.size) (Blk.new w7 9 #[.string word]) (Nat.le_refl _))
          have c7b := (E7.out.below T7.out hE7).cell
          have s7b := (S7.out.below T7.out hS7).cell
          go_wp2_with fail
          obtain ⟨w8, hw8⟩ : ∃ w8, w8 = w7.alloc (.cells #[.string word] 9) := ⟨_, rfl⟩
          rw [← hw8]
          rw [← hw8] at T7 O7
          clear hw8 c7b s7b c7 s7
          have T8 := T7
          have O8 := O7
          clear T7 O7
          refine (KN.out _).mono ?_
          rintro e w_ ⟨rfl, rfl⟩
          have c8 := (E7.out.below T8.out hE7).cell
          have s8 := (S7.out.below T8.out hS7).cell
          go_wp2_with fail
          refine (quote_any name _ (by omega)).mono ?_
          rintro e w9 ⟨rfl, hb9⟩
          have T9 := Lib.hid (T8.out.trans (hb9.mono T8.out.size))
          have O9 := Lib.hid (O8.out.below hb9)
          have c9 := (E7.out.below T9.out hE7).cell
          have s9 := (S7.out.below T9.out hS7).cell
          clear hb9 T8 O8
          obtain ⟨q, hq⟩ : ∃ q_ : ByteArray, q_ = ⟨(Ad.quote name.data.toList).toArray⟩ := ⟨_, rfl⟩
          rw [← hq]
          have Hq := Lib.hid (show q.data.toList = Ad.quote name.data.toList by rw [hq])
          clear hq
          by_cases hneg : n < 0
          · skip
            go_wp2_with (at_builtin; refine wpList_append_E rfl (.tmp 86) (.tmp 90) _ rfl it (.string ⟨#[]⟩) 16 Tryz.underlying81 J1 J2 J3 J4 rfl rfl (O9.out.alloc _) ⟨_, 0, none⟩ 1 1 [q] rfl rfl (news_str _ _ _ (by simp)) (by simp) (by omega) (by have := T9.out.size; simp; omega) ?_; intro v10 w10 ho10 hb10 hg10 hw10; have T10 := Lib.hid ((T9.out.alloc T9.out.size _).trans hb10); have O10 := Lib.hid ho10; have c10 := (E7.out.below T10.out hE7).cell; have s10 := (S7.out.below T10.out hS7).cell; have i10 := fun (q : Addr) (h : q.block < w7.heap.size) => T10.out.cell (p := q) h; have n10 := (i10 ad hadl).trans HCN.out; clear i10; clear ho10 hb10 hg10 hw10)
            go_ret2
            exact ⟨.inr ⟨Ad.no_fit HSH.out (fun hf => by have h3 := (hf.2.2.2.2.2 rfl).1; simp at h3; omega), 100, by decide, rfl⟩, B7.out.trans (T10.out.mono B7.out.size)⟩
          by_cases hbig : 2147483647 < n
          · skip
            go_wp2_with (at_builtin; refine wpList_append_E rfl (.tmp 86) (.tmp 90) _ rfl it (.string ⟨#[]⟩) 16 Tryz.underlying81 J1 J2 J3 J4 rfl rfl (O9.out.alloc _) ⟨_, 0, none⟩ 1 1 [q] rfl rfl (news_str _ _ _ (by simp)) (by simp) (by omega) (by have := T9.out.size; simp; omega) ?_; intro v10 w10 ho10 hb10 hg10 hw10; have T10 := Lib.hid ((T9.out.alloc T9.out.size _).trans hb10); have O10 := Lib.hid ho10; have c10 := (E7.out.below T10.out hE7).cell; have s10 := (S7.out.below T10.out hS7).cell; have i10 := fun (q : Addr) (h : q.block < w7.heap.size) => T10.out.cell (p := q) h; have n10 := (i10 ad hadl).trans HCN.out; clear i10; clear ho10 hb10 hg10 hw10)
            go_ret2
            exact ⟨.inr ⟨Ad.no_fit HSH.out (fun hf => by have h3 := (hf.2.2.2.2.2 rfl).2; simp at h3; omega), 100, by decide, rfl⟩, B7.out.trans (T10.out.mono B7.out.size)⟩
          have hneg' := hneg
          have hbig' := hbig
          go_wp2_with (at_builtin; refine wpList_append_E rfl (.tmp 86) (.tmp 90) _ rfl it (.string ⟨#[]⟩) 16 Tryz.underlying81 J1 J2 J3 J4 rfl rfl (O9.out.alloc _) ⟨_, 0, none⟩ 1 1 [q] rfl rfl (news_str _ _ _ (by simp)) (by simp) (by omega) (by have := T9.out.size; simp; omega) ?_; intro v10 w10 ho10 hb10 hg10 hw10; have T10 := Lib.hid ((T9.out.alloc T9.out.size _).trans hb10); have O10 := Lib.hid ho10; have c10 := (E7.out.below T10.out hE7).cell; have s10 := (S7.out.below T10.out hS7).cell; have i10 := fun (q : Addr) (h : q.block < w7.heap.size) => T10.out.cell (p := q) h; have n10 := (i10 ad hadl).trans HCN.out; clear i10; clear ho10 hb10 hg10 hw10)
          refine (digits_any n _ (by omega) (by omega)).mono ?_
          rintro e w11 ⟨rfl, hb11⟩
          have T11 := Lib.hid (T10.out.trans (hb11.mono T10.out.size))
          have O11 := Lib.hid (O10.out.below hb11)
          have c11 := (E7.out.below T11.out hE7).cell
          have s11 := (S7.out.below T11.out hS7).cell
          clear hb11 T10 O10
          obtain ⟨dg, hdg⟩ : ∃ q_ : ByteArray, q_ = ⟨(P.digits n).toArray⟩ := ⟨_, rfl⟩
          rw [← hdg]
          have Hdg := Lib.hid (show dg.data.toList = P.digits n by rw [hdg])
          clear hdg
          go_wp2_with (at_builtin; refine wpList_append_E rfl (.tmp 106) (.tmp 112) _ rfl it (.string ⟨#[]⟩) 16 Tryz.underlying81 J1 J2 J3 J4 rfl rfl (O11.out.alloc _) ⟨_, 0, none⟩ 1 1 [dg] rfl rfl (news_str _ _ _ (by simp)) (by simp) (by omega) (by have := T11.out.size; simp; omega) ?_; intro v12 w12 ho12 hb12 hg12 hw12; have T12 := Lib.hid ((T11.out.alloc T11.out.size _).trans hb12); have O12 := Lib.hid ho12; have c12 := (E7.out.below T12.out hE7).cell; have s12 := (S7.out.below T12.out hS7).cell; clear ho12 hb12 hg12 hw12)
          have hf : Ad.fits ⟨word.data.toList, [n], name.data.toList, (⟨#[]⟩ : ByteArray).data.toList⟩ (false, true, true) := ⟨(fun _ => rfl), (fun h => by cases h), rfl, by simp, by show name.data.toList.length ≤ 4096; simpa using hn4, (fun _ => ⟨by show 0 ≤ n; omega, by show n ≤ 2147483647; omega⟩)⟩
          have hout : Lib.join (([word] ++ [q] ++ [dg] : List ByteArray).map (·.data.toList)) [32] = Ad.outF ⟨word.data.toList, [n], name.data.toList, (⟨#[]⟩ : ByteArray).data.toList⟩ (false, true, true) := by
            have hnm := show Ad.nameW name.data.toList = q.data.toList from by unfold Ad.nameW; rw [HISN.out]; rw [Hq.out]; rfl
            show Lib.join [word.data.toList, q.data.toList, dg.data.toList] [32] = Lib.join [word.data.toList, Ad.nameW name.data.toList, P.digits n] [32]
            rw [hnm, Hdg.out]
          have hol := Ad.out_len HSH.out hf
          refine (join_any O12.out (by simp) (by simp) (by show (Lib.join (([word] ++ [q] ++ [dg] : List ByteArray).map (·.data.toList)) [32]).length ≤ _; rw [hout]; omega)).mono ?_
          rintro e w13 ⟨rfl, hb13⟩
          obtain ⟨o, ho⟩ : ∃ o : ByteArray, o = ⟨(Lib.join (([word] ++ [q] ++ [dg] : List ByteArray).map (·.data.toList)) [32]).toArray⟩ := ⟨_, rfl⟩
          have HO := Lib.hid (show o.data.toList = Ad.outF ⟨word.data.toList, [n], name.data.toList, (⟨#[]⟩ : ByteArray).data.toList⟩ (false, true, true) by rw [ho, ← hout])
          have ho2 : ¬ (65536 : Int) < (o.size : Int) := by
            have : o.size = o.data.toList.length := by simp
            rw [this, HO.out]
            omega
          have HF := Lib.hid hf
          have HB := Lib.hid (B7.out.trans ((T12.out.trans (hb13.mono T12.out.size)).mono B7.out.size))
          rw [← ho]
          clear hf hout hol ho hb13
          go_wp2_with fail
          go_ret2
          exact ⟨.inl ⟨o, ⟨_, HSH.out, HF.out, HO.out, by rw [HO.out]; exact Ad.out_len HSH.out HF.out⟩, rfl⟩, HB.out⟩
end Go.Proofs.YtmabpnmnppfgaaaGreatDoor
