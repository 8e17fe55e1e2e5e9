/- Parts, joined. -/
import Derived.Test.YtlbdpcokddpjpaaGreatDoorR3
/- The reference's Sorted, at texts of which no two are the same. -/
namespace Go.Proofs.YtlbdpcokddpjpaaGreatDoor
set_option linter.unusedVariables false
open Go Go.RowKit Go.BigFrame
namespace Rf
def le (a b : ByteArray) : Bool := decide (Lib.compareBytes a.data.toList b.data.toList ≤ 0)
theorem le_trans (a b c : ByteArray) (h1 : le a b = true) (h2 : le b c = true) : le a c = true := by
  unfold le at *
  simp only [decide_eq_true_eq] at *
  exact (P.cmp_le_trans _ _ _ h1 h2).1
theorem le_total (a b : ByteArray) : (le a b || le b a) = true := by
  unfold le
  have := P.cmp_swap a.data.toList b.data.toList
  simp only [Bool.or_eq_true, decide_eq_true_eq]
  show P.cmp _ _ ≤ 0 ∨ P.cmp _ _ ≤ 0
  omega
theorem merge_drop {a b : List ByteArray} {i j : Nat} (hi : i < a.length) (h : j ≥ b.length ∨ (∃ (hj : j < b.length), le a[i] b[j] = true)) : (a.drop i).merge (b.drop j) le = a[i] :: (a.drop (i + 1)).merge (b.drop j) le := by
  rw [List.drop_eq_getElem_cons hi]
  rcases h with h | ⟨hj, h⟩
  · rw [List.drop_eq_nil_of_le h, List.merge_right, List.merge_right]
  · rw [List.drop_eq_getElem_cons hj, List.cons_merge_cons, if_pos h]
theorem merge_drop2 {a b : List ByteArray} {i j : Nat} (hj : j < b.length) (h : i ≥ a.length ∨ (∃ (hi : i < a.length), le a[i] b[j] = false)) : (a.drop i).merge (b.drop j) le = b[j] :: (a.drop i).merge (b.drop (j + 1)) le := by
  rw [List.drop_eq_getElem_cons hj]
  rcases h with h | ⟨hi, h⟩
  · rw [List.drop_eq_nil_of_le h, List.nil_merge, List.nil_merge]
  · rw [List.drop_eq_getElem_cons hi, List.cons_merge_cons, if_neg (by rw [h]; simp)]
end Rf
theorem StrsAt.subs {w : World} {B n b o : Nat} {l : List ByteArray} (h : StrsAt w B (some ⟨b, o, none⟩) n l) (i m : Nat) (him : i + m ≤ n) (l' : List ByteArray) (he : l' = (l.drop i).take m) {C : Nat} (hC : B ≤ C) : StrsAt w C (some ⟨b, o + i, none⟩) m l' := by
  subst he
  have hlen := h.len
  refine ⟨by simp; omega, fun hm => ⟨_, rfl, ?_, fun j u hu => ?_⟩⟩
  · obtain ⟨ad, e, hb, _⟩ := h.2 (by omega)
    cases e
    simp only at hb ⊢
    omega
  · have := h.part him j u hu
    rw [Addr.add_lit] at this
    exact this
/-- What Sorted hands back. -/
def SortedTo (w : World) (l : List ByteArray) (e : Ending) (w' : World) : Prop :=
  ∃ v r, e = .returned v ∧ OwnT w' w.heap.size v r ∧ r.Perm l ∧ r.Pairwise (fun a b => Rf.le a b = true) ∧ Below w.heap.size w w'
set_option maxRecDepth 100000 in
set_option maxHeartbeats 4000000 in
theorem refSorted_n : ∀ (N : Nat) (l : List ByteArray) (w : World) (A : Option Addr) (c : Nat), l.length = N → (A = none ∨ ∃ b o, A = some ⟨b, o, none⟩) → StrsAt w w.heap.size A l.length l → l.length ≤ c → c ≤ maxLen → (A = none → l.length = 0 ∧ c = 0) → l.Nodup → (∀ s ∈ l, s.size ≤ maxLen) → l.length ≤ 100000 →
    Calls Tryz.prog 49 #[.slice A l.length c] w (SortedTo w l) := by
  intro N
  induction N using Nat.strongRecOn with
  | ind N ih =>
    intro l w A c hN hab hs hc hcm hA hnd hsz hbig
    unfold maxLen at hcm
    have HS := Lib.hid hs
    have HND := Lib.hid hnd
    have HSZ := Lib.hid hsz
    have HA := Lib.hid hA
    clear hs hnd hsz hA
    have HIH := Lib.hid ih
    clear ih
    generalize hn : l.length = n at *
    subst hN
    by_cases h2 : n < 2
    · obtain ⟨v5, w5, hr5, ho5, hb5⟩ : ∃ v5 w5, (Builtin.append_ #[33, 33] 33 #[.slice none 0 0, .slice A n c]).run Tryz.prog w = .ok v5 w5 ∧ OwnT w5 w.heap.size v5 l ∧ Below w.heap.size w w5 := by
        rcases A with _ | ad
        · obtain ⟨h0, h1⟩ := HA.out rfl
          subst h0 h1
          rw [List.eq_nil_of_length_eq_zero hn]
          exact ⟨_, _, t_append_none w _, OwnT.none_ _ _, Below.refl _ _⟩
        · obtain ⟨v', w', hr, ho, hb2, hg⟩ := t_append w 33 w.heap.size (.slice none 0 0) [] (OwnT.none_ _ _) ad n c l hn (fun j u hu => by
            obtain ⟨ad', e, _, hc⟩ := HS.out.2 (by have := (List.getElem?_eq_some_iff.1 hu).1; simp at this; omega)
            cases e
            exact hc j u hu) (by simp; omega) (Nat.le_refl _)
          exact ⟨v', w', hr, ho, hb2⟩
      have HO := Lib.hid ho5
      have HB := Lib.hid hb5
      clear ho5 hb5
      go_enter Tryz.func49, Tryz.ntmps49
      go_wp2_with (first
        | (refine wpList_appendD (v1 := .slice none 0 0) (vx := .slice A n c) rfl (.const (.slice none 0 0)) (.tmp 12) 33 rfl rfl rfl hr5 ?_)
        | fail)
      go_ret
      refine ⟨v5, l, rfl, HO.out, List.Perm.refl _, ?_, HB.out⟩
      match l, hn with
      | [], _ => exact List.Pairwise.nil
      | [a], _ => exact List.pairwise_singleton _ _
      | _ :: _ :: _, hn => simp at hn; omega
    · obtain ⟨b, o, rfl⟩ : ∃ b o, A = some ⟨b, o, none⟩ := by
        rcases hab with rfl | h
        · have := HA.out rfl; omega
        · exact h
      clear hab
      obtain ⟨hf, hhf⟩ : ∃ hf, hf = n / 2 := ⟨_, rfl⟩
      have hwr : IntKind.i64.wrap ((n : Int) / 2) = (hf : Int) := by rw [IntKind.wrap_i64]; omega
      have hnc : ¬ c = hf := by omega
      have hh1 : hf ≤ n := by omega
      have hh2 : hf ≤ c := by omega
      have hc1 : 0 ≤ (hf : Int) ∧ (hf : Int) ≤ (c : Int) := by omega
      have hc2 : 0 ≤ (hf : Int) ∧ (hf : Int) ≤ (n : Int) := by omega
      have h0f : 0 < hf := by omega
      have hfn : hf < n := by omega
      have HHF := Lib.hid hhf
      clear hhf
      go_enter Tryz.func49, Tryz.ntmps49
      go_wp2_with fail
      refine wp_region_free 12 [] Stays (fun | 5 => some fun v w' => ∃ r, OwnT w' w.heap.size v r ∧ r.Perm (l.take hf) ∧ r.Pairwise (fun a b => Rf.le a b = true) | 11 => some fun v w' => ∃ r, OwnT w' w.heap.size v r ∧ r.Perm (l.drop hf) ∧ r.Pairwise (fun a b => Rf.le a b = true) | _ => none) (by kernel_rfl) (by kernel_rfl) Stays.refl (by simp) (Stays.draw _) Stays.trans ?_ ?_
      · intro j φ v x y hB hp hxy
        split at hB <;> cases hB <;> (obtain ⟨r, h1, h2⟩ := hp; exact ⟨r, h1.stays hxy, h2⟩)
      · apply wpFree_pure rfl rfl
        · intro vs wx hk K hK
          go_simp
          exact hK _ (Stays.refl _)
        intro KK hKK
        go_simp
        refine hKK _ ?_
        clear hKK KK
        apply wpFree_pure rfl rfl
        · intro vs wx hk K hK
          go_simp
          exact hK _ (Stays.refl _)
        intro KK hKK
        go_simp
        refine hKK _ ?_
        clear hKK KK
        apply wpFree_pure rfl rfl
        · intro vs wx hk K hK
          go_simp
          exact hK _ (Stays.refl _)
        intro KK hKK
        go_simp
        refine hKK _ ?_
        clear hKK KK
        apply wpFree_pure rfl rfl
        · intro vs wx hk K hK
          go_simp
          exact hK _ (Stays.refl _)
        intro KK hKK
        go_simp
        refine hKK _ ?_
        clear hKK KK
        apply wpFree_pure rfl rfl
        · intro vs wx hk K hK
          go_simp
          exact hK _ (Stays.refl _)
        intro KK hKK
        go_simp
        refine hKK _ ?_
        clear hKK KK
        refine wpFree_fact rfl ?_ ?_
        · intro vs wx hk K hK
          go_simp
          have hl1 : (l.take hf).length = hf := by simp; omega
          have K1 := HIH.out (hf) (by omega) (l.take hf) wx (some ⟨b, o, none⟩) (c) hl1 (.inr ⟨b, o, rfl⟩) (by rw [hl1]; exact (HS.out.below hk.1).subs 0 (hf) (by omega) (l.take hf) (by rw [List.drop_zero]) hk.1.size) (by rw [hl1]; omega) (by unfold maxLen; omega) (fun h => by cases h) (HND.out.sublist (List.take_sublist _ _)) (fun s hs => HSZ.out s (List.mem_of_mem_take hs)) (by rw [hl1]; omega)
          rw [hl1] at K1
          exact K1.mono fun e w'' ⟨v, r, he, ho, hp, hs, hb⟩ => ⟨v, he, hK _ _ hb ⟨r, ho.less hk.1.size, hp, hs⟩⟩
        intro KK hKK
        go_simp
        refine hKK _ ?_
        clear hKK KK
        apply wpFree_pure rfl rfl
        · intro vs wx hk K hK
          go_simp
          exact hK _ (Stays.refl _)
        intro KK hKK
        go_simp
        refine hKK _ ?_
        clear hKK KK
        apply wpFree_pure rfl rfl
        · intro vs wx hk K hK
          go_simp
          exact hK _ (Stays.refl _)
        intro KK hKK
        go_simp
        refine hKK _ ?_
        clear hKK KK
        apply wpFree_pure rfl rfl
        · intro vs wx hk K hK
          go_simp
          exact hK _ (Stays.refl _)
        intro KK hKK
        go_simp
        refine hKK _ ?_
        clear hKK KK
        apply wpFree_pure rfl rfl
        · intro vs wx hk K hK
          go_simp
          exact hK _ (Stays.refl _)
        intro KK hKK
        go_simp
        refine hKK _ ?_
        clear hKK KK
        apply wpFree_pure rfl rfl
        · intro vs wx hk K hK
          go_simp
          exact hK _ (Stays.refl _)
        intro KK hKK
        go_simp
        refine hKK _ ?_
        clear hKK KK
        refine wpFree_fact rfl ?_ ?_
        · intro vs wx hk K hK
          go_simp
          have hl1 : (l.drop hf).length = n - hf := by simp [hn]
          have K1 := HIH.out (n - hf) (by omega) (l.drop hf) wx (some ⟨b, o + hf, none⟩) (c - hf) hl1 (.inr ⟨b, o + hf, rfl⟩) (by rw [hl1]; exact (HS.out.below hk.1).subs hf (n - hf) (by omega) (l.drop hf) (by rw [List.take_of_length_le (by simp [hn])]) hk.1.size) (by rw [hl1]; omega) (by unfold maxLen; omega) (fun h => by cases h) (HND.out.sublist (List.drop_sublist _ _)) (fun s hs => HSZ.out s (List.mem_of_mem_drop hs)) (by rw [hl1]; omega)
          rw [hl1] at K1
          exact K1.mono fun e w'' ⟨v, r, he, ho, hp, hs, hb⟩ => ⟨v, he, hK _ _ hb ⟨r, ho.less hk.1.size, hp, hs⟩⟩
        intro KK hKK
        go_simp
        refine hKK _ ?_
        clear hKK KK
        refine wpFree_nil ?_
        intro vs w5 hs5 hf5
        obtain ⟨ra, ha1, ha2, ha3⟩ := hf5 5 _ (by omega) rfl
        obtain ⟨rb, hb1, hb2, hb3⟩ := hf5 11 _ (by omega) rfl
        generalize vs 5 = va at *
        generalize vs 11 = vb at *
        clear hf5
        intro KK hKK
        simp only [List.drop_succ_cons, List.drop_zero]
        obtain ⟨Aa, ca, rfl, hca1, hca2, -, hsa⟩ := ha1.form
        obtain ⟨Ab, cb, rfl, hcb1, hcb2, -, hsb⟩ := hb1.form
        have SA := Lib.hid hsa
        have SB := Lib.hid hsb
        have WB := Lib.hid (show Below w.heap.size w w5 from (Below.refl _ w).trans hs5)
        have hlena : ra.length = hf := by rw [ha2.length_eq]; simp; omega
        have hlenb : rb.length = n - hf := by rw [hb2.length_eq]; simp [hn]
        have MP := Lib.hid (show (ra.merge rb Rf.le).Perm l from (List.merge_perm_append (le := Rf.le)).trans ((ha2.append hb2).trans (by rw [List.take_append_drop])))
        have MS := Lib.hid (show (ra.merge rb Rf.le).Pairwise (fun a b => Rf.le a b = true) from List.pairwise_merge Rf.le_trans Rf.le_total _ _ ha3 hb3)
        have MN := Lib.hid (show (ra.merge rb Rf.le).Nodup from (MP.out.nodup_iff).2 HND.out)
        have MZ := Lib.hid (show (∀ s ∈ ra, s.size ≤ maxLen) ∧ ∀ s ∈ rb, s.size ≤ maxLen from ⟨fun s hs => HSZ.out s (List.mem_of_mem_take (ha2.subset hs)), fun s hs => HSZ.out s (List.mem_of_mem_drop (hb2.subset hs))⟩)
        have hra5 : ra.length ≤ 100000 := by omega
        have hrb5 : rb.length ≤ 100000 := by omega
        have HLA := Lib.hid hlena
        have HLB := Lib.hid hlenb
        clear ha1 hb1 ha2 hb2 ha3 hb3 hsa hsb hs5 HS HA HIH HHF hlena hlenb
        go_wp2_with fail
        have O5 := Lib.hid (OwnT.none_ w5 w5.heap.size)
        generalize hM : ra.merge rb Rf.le = M at *
        have HM := Lib.hid hM
        clear hM
        go_loopw [5, 6, 7] (fun vo vi vj wr => ∃ (i j : Nat) (o : List ByteArray), vi = .int .i64 i ∧ vj = .int .i64 j ∧ i ≤ ra.length ∧ j ≤ rb.length ∧ OwnT wr w5.heap.size vo o ∧ o ++ (ra.drop i).merge (rb.drop j) Rf.le = M ∧ Below w5.heap.size w5 wr) (fun _ vi vj _ => (ra.length - (intOf vi).toNat) + (rb.length - (intOf vj).toNat))
        case atStart => exact ⟨0, 0, [], rfl, rfl, by omega, by omega, O5.out, by simpa using HM.out, Below.refl _ _⟩
        case round =>
          obtain ⟨i, j, o, rfl, rfl, hi, hj, ho, hm, hbel⟩ := hrel
          have HO := Lib.hid ho
          have HMM := Lib.hid hm
          have HBL := Lib.hid hbel
          obtain ⟨Ao, co, rfl, hco1, hco2, -, hso⟩ := ho.form
          have SO := Lib.hid hso
          have hol : o.length ≤ n := by
            have h1 := congrArg List.length hm
            have h2 := MP.out.length_eq
            rw [List.length_append] at h1
            omega
          clear ho hm hbel hso
          by_cases hend : i = ra.length ∧ j = rb.length
          · obtain ⟨rfl, rfl⟩ := hend
            have HE := Lib.hid (show o = M from by have := HMM.out; simpa using this)
            clear HMM
            go_wp2_with fail
            go_ret
            refine ⟨_, o, rfl, HO.out.less WB.out.size, ?_, ?_, WB.out.trans (HBL.out.mono WB.out.size)⟩
            · rw [HE.out]; exact MP.out
            · rw [HE.out]; exact MS.out
          · rcases Nat.lt_or_ge j rb.length with hj1 | hj1
            · rcases Nat.lt_or_ge i ra.length with hi1 | hi1
              · skip
                have hra := List.getElem?_eq_getElem hi1
                have hrb := List.getElem?_eq_getElem hj1
                cases hle : Rf.le ra[i] rb[j] with
                | true =>
                  have hh := Rf.merge_drop (a := ra) (b := rb) hi1 (.inr ⟨hj1, hle⟩)
                  obtain ⟨ada, sa, hAa, hba, hsa1, hca⟩ := (SA.out.below HBL.out).in_ hi1
                  subst hAa
                  rw [hra] at hsa1
                  have ea : ra[i] = sa := by injection hsa1
                  have HCA := Lib.hid hca
                  have hza := Lib.hid (MZ.out.1 sa (List.mem_of_getElem? (hra.trans hsa1)))
                  clear hsa1 hca
                  obtain ⟨adb, sb, hAb, hbb, hsb1, hcb⟩ := (SB.out.below HBL.out).in_ hj1
                  subst hAb
                  rw [hrb] at hsb1
                  have eb : rb[j] = sb := by injection hsb1
                  have HCB := Lib.hid hcb
                  have hzb := Lib.hid (MZ.out.2 sb (List.mem_of_getElem? (hrb.trans hsb1)))
                  clear hsb1 hcb
                  rw [ea] at hh hle
                  rw [eb] at hle
                  have hcm0 : Lib.compareBytes sa.data.toList sb.data.toList ≤ 0 := of_decide_eq_true hle
                  obtain ⟨cv, hcv⟩ : ∃ cv, P.cmp sa.data.toList sb.data.toList = cv := ⟨_, rfl⟩
                  have hcv0 : cv ≤ 0 := by rw [← hcv]; exact hcm0
                  have HH := Lib.hid hh
                  clear hh hra hrb ea eb hle hcm0
                  go_upto_region 8 with fail
                  refine wp_region_free 22 [] Stays (fun _ => none) (by kernel_rfl) (by kernel_rfl) Stays.refl (by simp) (Stays.draw _) Stays.trans (fun j φ v x y hB => by cases hB) ?_
                  apply wpFree_pure rfl rfl
                  · intro vs wx hk K hK
                    go_simp
                    exact hK _ (Stays.refl _)
                  intro KK hKK
                  go_simp
                  refine hKK _ ?_
                  clear hKK KK
                  apply wpFree_pure rfl rfl
                  · intro vs wx hk K hK
                    go_simp
                    exact hK _ (Stays.refl _)
                  intro KK hKK
                  go_simp
                  refine hKK _ ?_
                  clear hKK KK
                  apply wpFree_pure rfl rfl
                  · intro vs wx hk K hK
                    go_simp
                    exact hK _ (Stays.refl _)
                  intro KK hKK
                  go_simp
                  refine hKK _ ?_
                  clear hKK KK
                  apply wpFree_pure rfl rfl
                  · intro vs wx hk K hK
                    go_simp
                    exact hK _ (Stays.refl _)
                  intro KK hKK
                  go_simp
                  refine hKK _ ?_
                  clear hKK KK
                  apply wpFree_pure rfl rfl
                  · intro vs wx hk K hK
                    go_simp
                    exact hK _ (Stays.refl _)
                  intro KK hKK
                  go_simp
                  refine hKK _ ?_
                  clear hKK KK
                  apply wpFree_pure rfl rfl
                  · intro vs wx hk K hK
                    go_simp
                    exact hK _ (Stays.refl _)
                  intro KK hKK
                  go_simp
                  refine hKK _ ?_
                  clear hKK KK
                  apply wpFree_pure rfl rfl
                  · intro vs wx hk K hK
                    go_simp
                    exact hK _ (Stays.refl _)
                  intro KK hKK
                  go_simp
                  refine hKK _ ?_
                  clear hKK KK
                  apply wpFree_pure rfl rfl
                  · intro vs wx hk K hK
                    go_simp
                    exact hK _ (Stays.refl _)
                  intro KK hKK
                  go_simp
                  refine hKK _ ?_
                  clear hKK KK
                  apply wpFree_pure rfl rfl
                  · intro vs wx hk K hK
                    go_simp
                    exact hK _ (Stays.refl _)
                  intro KK hKK
                  go_simp
                  refine hKK _ ?_
                  clear hKK KK
                  apply wpFree_pure rfl rfl
                  · intro vs wx hk K hK
                    go_simp
                    exact hK _ (Stays.refl _)
                  intro KK hKK
                  go_simp
                  refine hKK _ ?_
                  clear hKK KK
                  apply wpFree_pure rfl rfl
                  · intro vs wx hk K hK
                    go_simp
                    exact hK _ (Stays.refl _)
                  intro KK hKK
                  go_simp
                  refine hKK _ ?_
                  clear hKK KK
                  apply wpFree_pure rfl rfl
                  · intro vs wx hk K hK
                    go_simp
                    exact hK _ (Stays.refl _)
                  intro KK hKK
                  go_simp
                  refine hKK _ ?_
                  clear hKK KK
                  apply wpFree_pure rfl rfl
                  · intro vs wx hk K hK
                    go_simp
                    exact hK _ (Stays.refl _)
                  intro KK hKK
                  go_simp
                  refine hKK _ ?_
                  clear hKK KK
                  apply wpFree_pure rfl rfl
                  · intro vs wx hk K hK
                    have hcx := (hk.1.cell (p := ada.add i) (by rw [block_of_add]; exact Nat.lt_of_lt_of_le hba HBL.out.size)).trans HCA.out
                    go_simp
                    exact hK _ (Stays.refl _)
                  intro KK hKK
                  go_simp
                  refine hKK _ ?_
                  clear hKK KK
                  apply wpFree_pure rfl rfl
                  · intro vs wx hk K hK
                    go_simp
                    exact hK _ (Stays.refl _)
                  intro KK hKK
                  go_simp
                  refine hKK _ ?_
                  clear hKK KK
                  apply wpFree_pure rfl rfl
                  · intro vs wx hk K hK
                    go_simp
                    exact hK _ (Stays.refl _)
                  intro KK hKK
                  go_simp
                  refine hKK _ ?_
                  clear hKK KK
                  apply wpFree_pure rfl rfl
                  · intro vs wx hk K hK
                    go_simp
                    exact hK _ (Stays.refl _)
                  intro KK hKK
                  go_simp
                  refine hKK _ ?_
                  clear hKK KK
                  apply wpFree_pure rfl rfl
                  · intro vs wx hk K hK
                    have hcx := (hk.1.cell (p := adb.add j) (by rw [block_of_add]; exact Nat.lt_of_lt_of_le hbb HBL.out.size)).trans HCB.out
                    go_simp
                    exact hK _ (Stays.refl _)
                  intro KK hKK
                  go_simp
                  refine hKK _ ?_
                  clear hKK KK
                  apply wpFree_pure rfl rfl
                  · intro vs wx hk K hK
                    have KC := refCompare_any sa sb wx hza.out hzb.out
                    rw [hcv] at KC
                    go_simp
                    first
                      | exact hK _ (Stays.refl _)
                      | exact Calls.free hK KC
                  intro KK hKK
                  go_simp
                  refine hKK _ ?_
                  clear hKK KK
                  apply wpFree_pure rfl rfl
                  · intro vs wx hk K hK
                    go_simp
                    exact hK _ (Stays.refl _)
                  intro KK hKK
                  go_simp
                  refine hKK _ ?_
                  clear hKK KK
                  apply wpFree_pure rfl rfl
                  · intro vs wx hk K hK
                    go_simp
                    exact hK _ (Stays.refl _)
                  intro KK hKK
                  go_simp
                  refine hKK _ ?_
                  clear hKK KK
                  apply wpFree_pure rfl rfl
                  · intro vs wx hk K hK
                    go_simp
                    exact hK _ (Stays.refl _)
                  intro KK hKK
                  go_simp
                  refine hKK _ ?_
                  clear hKK KK
                  refine wpFree_nil ?_
                  intro vs wx hsx _
                  have HBW := Lib.hid (show Below wr.heap.size wr wx from hsx)
                  intro KK hKK
                  simp only [List.drop_succ_cons, List.drop_zero]
                  have hcx := (HBW.out.cell (p := ada.add i) (by rw [block_of_add]; exact Nat.lt_of_lt_of_le hba HBL.out.size)).trans HCA.out
                  have HP := Lib.hid (show o ++ sa :: (ra.drop (i + 1)).merge (rb.drop (j)) Rf.le = M from (by rw [← HH.out]; exact HMM.out))
                  have hfw := HBW.out
                  have HOW := Lib.hid (HO.out.below hfw)
                  have HB2 := Lib.hid (HBL.out.trans (hfw.mono HBL.out.size))
                  clear hfw HBW HMM
                  have hdr : w5.heap.size ≤ wx.heap.size := HB2.out.size
                  obtain ⟨v8, w8, hr8, ho8, hb8, -⟩ := t_append (wx.alloc (.cells #[.string (sa)] 9)) 33 w5.heap.size (.slice Ao o.length co) o (HOW.out.below ((Below.refl _ _).alloc (Nat.le_refl _) _)) ⟨wx.heap.size, 0, none⟩ 1 1 [sa] rfl (fun q u hu => by
                    rw [Addr.add_lit, Nat.zero_add, (Blk.new wx _ _).cell]
                    simpa using hu) (by omega) (by simp; omega)
                  have HO8 := Lib.hid ho8
                  have HB8 := Lib.hid (show Below w5.heap.size w5 w8 from (HB2.out.alloc HB2.out.size _).trans hb8)
                  have HM8 := Lib.hid (show (o ++ [sa]) ++ (ra.drop (i + 1)).merge (rb.drop (j)) Rf.le = M from by rw [List.append_assoc]; exact HP.out)
                  obtain ⟨A8, c8, e8, -, -, -, -⟩ := ho8.form
                  generalize hl8 : (o ++ [sa]).length = l8 at e8
                  subst e8
                  clear ho8 hb8
                  rcases List.eq_nil_or_concat o with h0 | ⟨o', z, h0⟩
                  · have hlz : (((o.length : Nat) : Int) == 0) = true := by rw [h0]; rfl
                    clear h0
                    go_wp2_with (first
                      | (refine wpList_appendD (v1 := .slice Ao o.length co) (vx := .slice (some ⟨wx.heap.size, 0, none⟩) 1 1) rfl (.tmp 83) (.tmp 85) 33 rfl rfl rfl hr8 ?_)
                      | fail)
                    go_roundw
                    case rel => exact ⟨i + 1, j, o ++ [sa], by go_num, by go_num, by omega, by omega, HO8.out, HM8.out, HB8.out⟩
                    case measure => simp [intOf]; omega
                  · have hol1 : o.length = o'.length + 1 := by rw [h0]; simp
                    have hz : z ≠ sa := fun e => by
                      have h1 := MN.out
                      rw [← HP.out, h0, e] at h1
                      simp [List.nodup_append] at h1
                    have hzs : (z.toList == (sa).toList) = false := by rw [toList_beq]; exact decide_eq_false hz
                    have hcell : ∃ bo, Ao = some ⟨bo, 0, none⟩ ∧ wx.cell? ⟨bo, o'.length, none⟩ = some (.string z) := by
                      rcases HOW.out.2 with ⟨_, h2⟩ | ⟨bo, cap, cur, hv, _, hh, h3, h4, h5, h6⟩
                      · omega
                      · cases hv
                        refine ⟨bo, rfl, ?_⟩
                        rw [(show Blk wx bo _ cur from hh).cell, ← Array.getElem?_toList]
                        have h7 : (cur.toList.take (o.length * 1))[o'.length]? = (o.map Value.string)[o'.length]? := by rw [h6]
                        rw [List.getElem?_take_of_lt (by omega), h0] at h7
                        rw [h7]
                        simp
                    obtain ⟨bo, rfl, hcell⟩ := hcell
                    have hwr2 : IntKind.i64.wrap ((o.length : Int) - 1) = (o'.length : Int) := by rw [IntKind.wrap_i64]; omega
                    have hop : o'.length < o.length := by omega
                    have hlz : (((o.length : Nat) : Int) == 0) = false := by rw [hol1]; simp; omega
                    have HOL := Lib.hid hol1
                    clear h0 hz hol1
                    go_wp2_with (first
                      | (refine wpList_appendD (v1 := .slice (some ⟨bo, 0, none⟩) o.length co) (vx := .slice (some ⟨wx.heap.size, 0, none⟩) 1 1) rfl (.tmp 83) (.tmp 85) 33 rfl rfl rfl hr8 ?_)
                      | fail)
                    go_roundw
                    case rel => exact ⟨i + 1, j, o ++ [sa], by go_num, by go_num, by omega, by omega, HO8.out, HM8.out, HB8.out⟩
                    case measure => simp [intOf]; omega
                | false =>
                  have hh := Rf.merge_drop2 (a := ra) (b := rb) hj1 (.inr ⟨hi1, hle⟩)
                  obtain ⟨ada, sa, hAa, hba, hsa1, hca⟩ := (SA.out.below HBL.out).in_ hi1
                  subst hAa
                  rw [hra] at hsa1
                  have ea : ra[i] = sa := by injection hsa1
                  have HCA := Lib.hid hca
                  have hza := Lib.hid (MZ.out.1 sa (List.mem_of_getElem? (hra.trans hsa1)))
                  clear hsa1 hca
                  obtain ⟨adb, sb, hAb, hbb, hsb1, hcb⟩ := (SB.out.below HBL.out).in_ hj1
                  subst hAb
                  rw [hrb] at hsb1
                  have eb : rb[j] = sb := by injection hsb1
                  have HCB := Lib.hid hcb
                  have hzb := Lib.hid (MZ.out.2 sb (List.mem_of_getElem? (hrb.trans hsb1)))
                  clear hsb1 hcb
                  rw [eb] at hh hle
                  rw [ea] at hle
                  have hcm0 : ¬ Lib.compareBytes sa.data.toList sb.data.toList ≤ 0 := of_decide_eq_false hle
                  obtain ⟨cv, hcv⟩ : ∃ cv, P.cmp sa.data.toList sb.data.toList = cv := ⟨_, rfl⟩
                  have hcv0 : ¬ cv ≤ 0 := by rw [← hcv]; exact hcm0
                  have HH := Lib.hid hh
                  clear hh hra hrb ea eb hle hcm0
                  go_upto_region 8 with fail
                  refine wp_region_free 22 [] Stays (fun _ => none) (by kernel_rfl) (by kernel_rfl) Stays.refl (by simp) (Stays.draw _) Stays.trans (fun j φ v x y hB => by cases hB) ?_
                  apply wpFree_pure rfl rfl
                  · intro vs wx hk K hK
                    go_simp
                    exact hK _ (Stays.refl _)
                  intro KK hKK
                  go_simp
                  refine hKK _ ?_
                  clear hKK KK
                  apply wpFree_pure rfl rfl
                  · intro vs wx hk K hK
                    go_simp
                    exact hK _ (Stays.refl _)
                  intro KK hKK
                  go_simp
                  refine hKK _ ?_
                  clear hKK KK
                  apply wpFree_pure rfl rfl
                  · intro vs wx hk K hK
                    go_simp
                    exact hK _ (Stays.refl _)
                  intro KK hKK
                  go_simp
                  refine hKK _ ?_
                  clear hKK KK
                  apply wpFree_pure rfl rfl
                  · intro vs wx hk K hK
                    go_simp
                    exact hK _ (Stays.refl _)
                  intro KK hKK
                  go_simp
                  refine hKK _ ?_
                  clear hKK KK
                  apply wpFree_pure rfl rfl
                  · intro vs wx hk K hK
                    go_simp
                    exact hK _ (Stays.refl _)
                  intro KK hKK
                  go_simp
                  refine hKK _ ?_
                  clear hKK KK
                  apply wpFree_pure rfl rfl
                  · intro vs wx hk K hK
                    go_simp
                    exact hK _ (Stays.refl _)
                  intro KK hKK
                  go_simp
                  refine hKK _ ?_
                  clear hKK KK
                  apply wpFree_pure rfl rfl
                  · intro vs wx hk K hK
                    go_simp
                    exact hK _ (Stays.refl _)
                  intro KK hKK
                  go_simp
                  refine hKK _ ?_
                  clear hKK KK
                  apply wpFree_pure rfl rfl
                  · intro vs wx hk K hK
                    go_simp
                    exact hK _ (Stays.refl _)
                  intro KK hKK
                  go_simp
                  refine hKK _ ?_
                  clear hKK KK
                  apply wpFree_pure rfl rfl
                  · intro vs wx hk K hK
                    go_simp
                    exact hK _ (Stays.refl _)
                  intro KK hKK
                  go_simp
                  refine hKK _ ?_
                  clear hKK KK
                  apply wpFree_pure rfl rfl
                  · intro vs wx hk K hK
                    go_simp
                    exact hK _ (Stays.refl _)
                  intro KK hKK
                  go_simp
                  refine hKK _ ?_
                  clear hKK KK
                  apply wpFree_pure rfl rfl
                  · intro vs wx hk K hK
                    go_simp
                    exact hK _ (Stays.refl _)
                  intro KK hKK
                  go_simp
                  refine hKK _ ?_
                  clear hKK KK
                  apply wpFree_pure rfl rfl
                  · intro vs wx hk K hK
                    go_simp
                    exact hK _ (Stays.refl _)
                  intro KK hKK
                  go_simp
                  refine hKK _ ?_
                  clear hKK KK
                  apply wpFree_pure rfl rfl
                  · intro vs wx hk K hK
                    go_simp
                    exact hK _ (Stays.refl _)
                  intro KK hKK
                  go_simp
                  refine hKK _ ?_
                  clear hKK KK
                  apply wpFree_pure rfl rfl
                  · intro vs wx hk K hK
                    have hcx := (hk.1.cell (p := ada.add i) (by rw [block_of_add]; exact Nat.lt_of_lt_of_le hba HBL.out.size)).trans HCA.out
                    go_simp
                    exact hK _ (Stays.refl _)
                  intro KK hKK
                  go_simp
                  refine hKK _ ?_
                  clear hKK KK
                  apply wpFree_pure rfl rfl
                  · intro vs wx hk K hK
                    go_simp
                    exact hK _ (Stays.refl _)
                  intro KK hKK
                  go_simp
                  refine hKK _ ?_
                  clear hKK KK
                  apply wpFree_pure rfl rfl
                  · intro vs wx hk K hK
                    go_simp
                    exact hK _ (Stays.refl _)
                  intro KK hKK
                  go_simp
                  refine hKK _ ?_
                  clear hKK KK
                  apply wpFree_pure rfl rfl
                  · intro vs wx hk K hK
                    go_simp
                    exact hK _ (Stays.refl _)
                  intro KK hKK
                  go_simp
                  refine hKK _ ?_
                  clear hKK KK
                  apply wpFree_pure rfl rfl
                  · intro vs wx hk K hK
                    have hcx := (hk.1.cell (p := adb.add j) (by rw [block_of_add]; exact Nat.lt_of_lt_of_le hbb HBL.out.size)).trans HCB.out
                    go_simp
                    exact hK _ (Stays.refl _)
                  intro KK hKK
                  go_simp
                  refine hKK _ ?_
                  clear hKK KK
                  apply wpFree_pure rfl rfl
                  · intro vs wx hk K hK
                    have KC := refCompare_any sa sb wx hza.out hzb.out
                    rw [hcv] at KC
                    go_simp
                    first
                      | exact hK _ (Stays.refl _)
                      | exact Calls.free hK KC
                  intro KK hKK
                  go_simp
                  refine hKK _ ?_
                  clear hKK KK
                  apply wpFree_pure rfl rfl
                  · intro vs wx hk K hK
                    go_simp
                    exact hK _ (Stays.refl _)
                  intro KK hKK
                  go_simp
                  refine hKK _ ?_
                  clear hKK KK
                  apply wpFree_pure rfl rfl
                  · intro vs wx hk K hK
                    go_simp
                    exact hK _ (Stays.refl _)
                  intro KK hKK
                  go_simp
                  refine hKK _ ?_
                  clear hKK KK
                  apply wpFree_pure rfl rfl
                  · intro vs wx hk K hK
                    go_simp
                    exact hK _ (Stays.refl _)
                  intro KK hKK
                  go_simp
                  refine hKK _ ?_
                  clear hKK KK
                  refine wpFree_nil ?_
                  intro vs wx hsx _
                  have HBW := Lib.hid (show Below wr.heap.size wr wx from hsx)
                  intro KK hKK
                  simp only [List.drop_succ_cons, List.drop_zero]
                  have hcx := (HBW.out.cell (p := adb.add j) (by rw [block_of_add]; exact Nat.lt_of_lt_of_le hbb HBL.out.size)).trans HCB.out
                  have HP := Lib.hid (show o ++ sb :: (ra.drop (i)).merge (rb.drop (j + 1)) Rf.le = M from (by rw [← HH.out]; exact HMM.out))
                  have hfw := HBW.out
                  have HOW := Lib.hid (HO.out.below hfw)
                  have HB2 := Lib.hid (HBL.out.trans (hfw.mono HBL.out.size))
                  clear hfw HBW HMM
                  have hdr : w5.heap.size ≤ wx.heap.size := HB2.out.size
                  obtain ⟨v8, w8, hr8, ho8, hb8, -⟩ := t_append (wx.alloc (.cells #[.string (sb)] 9)) 33 w5.heap.size (.slice Ao o.length co) o (HOW.out.below ((Below.refl _ _).alloc (Nat.le_refl _) _)) ⟨wx.heap.size, 0, none⟩ 1 1 [sb] rfl (fun q u hu => by
                    rw [Addr.add_lit, Nat.zero_add, (Blk.new wx _ _).cell]
                    simpa using hu) (by omega) (by simp; omega)
                  have HO8 := Lib.hid ho8
                  have HB8 := Lib.hid (show Below w5.heap.size w5 w8 from (HB2.out.alloc HB2.out.size _).trans hb8)
                  have HM8 := Lib.hid (show (o ++ [sb]) ++ (ra.drop (i)).merge (rb.drop (j + 1)) Rf.le = M from by rw [List.append_assoc]; exact HP.out)
                  obtain ⟨A8, c8, e8, -, -, -, -⟩ := ho8.form
                  generalize hl8 : (o ++ [sb]).length = l8 at e8
                  subst e8
                  clear ho8 hb8
                  rcases List.eq_nil_or_concat o with h0 | ⟨o', z, h0⟩
                  · have hlz : (((o.length : Nat) : Int) == 0) = true := by rw [h0]; rfl
                    clear h0
                    go_wp2_with (first
                      | (refine wpList_appendD (v1 := .slice Ao o.length co) (vx := .slice (some ⟨wx.heap.size, 0, none⟩) 1 1) rfl (.tmp 83) (.tmp 85) 33 rfl rfl rfl hr8 ?_)
                      | fail)
                    go_roundw
                    case rel => exact ⟨i, j + 1, o ++ [sb], by go_num, by go_num, by omega, by omega, HO8.out, HM8.out, HB8.out⟩
                    case measure => simp [intOf]; omega
                  · have hol1 : o.length = o'.length + 1 := by rw [h0]; simp
                    have hz : z ≠ sb := fun e => by
                      have h1 := MN.out
                      rw [← HP.out, h0, e] at h1
                      simp [List.nodup_append] at h1
                    have hzs : (z.toList == (sb).toList) = false := by rw [toList_beq]; exact decide_eq_false hz
                    have hcell : ∃ bo, Ao = some ⟨bo, 0, none⟩ ∧ wx.cell? ⟨bo, o'.length, none⟩ = some (.string z) := by
                      rcases HOW.out.2 with ⟨_, h2⟩ | ⟨bo, cap, cur, hv, _, hh, h3, h4, h5, h6⟩
                      · omega
                      · cases hv
                        refine ⟨bo, rfl, ?_⟩
                        rw [(show Blk wx bo _ cur from hh).cell, ← Array.getElem?_toList]
                        have h7 : (cur.toList.take (o.length * 1))[o'.length]? = (o.map Value.string)[o'.length]? := by rw [h6]
                        rw [List.getElem?_take_of_lt (by omega), h0] at h7
                        rw [h7]
                        simp
                    obtain ⟨bo, rfl, hcell⟩ := hcell
                    have hwr2 : IntKind.i64.wrap ((o.length : Int) - 1) = (o'.length : Int) := by rw [IntKind.wrap_i64]; omega
                    have hop : o'.length < o.length := by omega
                    have hlz : (((o.length : Nat) : Int) == 0) = false := by rw [hol1]; simp; omega
                    have HOL := Lib.hid hol1
                    clear h0 hz hol1
                    go_wp2_with (first
                      | (refine wpList_appendD (v1 := .slice (some ⟨bo, 0, none⟩) o.length co) (vx := .slice (some ⟨wx.heap.size, 0, none⟩) 1 1) rfl (.tmp 83) (.tmp 85) 33 rfl rfl rfl hr8 ?_)
                      | fail)
                    go_roundw
                    case rel => exact ⟨i, j + 1, o ++ [sb], by go_num, by go_num, by omega, by omega, HO8.out, HM8.out, HB8.out⟩
                    case measure => simp [intOf]; omega
              · skip
                obtain rfl : i = ra.length := by omega
                have hrb := List.getElem?_eq_getElem hj1
                have hh := Rf.merge_drop2 (a := ra) (b := rb) (i := ra.length) hj1 (.inl (Nat.le_refl _))
                obtain ⟨adb, sb, hAb, hbb, hsb1, hcb⟩ := (SB.out.below HBL.out).in_ hj1
                subst hAb
                rw [hrb] at hsb1
                have eb : rb[j] = sb := by injection hsb1
                have HCB := Lib.hid hcb
                have hzb := Lib.hid (MZ.out.2 sb (List.mem_of_getElem? (hrb.trans hsb1)))
                clear hsb1 hcb
                rw [eb] at hh
                have HH := Lib.hid hh
                clear hh hrb eb
                go_upto_region 8 with fail
                refine wp_region_free 22 [] Stays (fun _ => none) (by kernel_rfl) (by kernel_rfl) Stays.refl (by simp) (Stays.draw _) Stays.trans (fun j φ v x y hB => by cases hB) ?_
                apply wpFree_pure rfl rfl
                · intro vs wx hk K hK
                  go_simp
                  exact hK _ (Stays.refl _)
                intro KK hKK
                go_simp
                refine hKK _ ?_
                clear hKK KK
                apply wpFree_pure rfl rfl
                · intro vs wx hk K hK
                  go_simp
                  exact hK _ (Stays.refl _)
                intro KK hKK
                go_simp
                refine hKK _ ?_
                clear hKK KK
                apply wpFree_pure rfl rfl
                · intro vs wx hk K hK
                  go_simp
                  exact hK _ (Stays.refl _)
                intro KK hKK
                go_simp
                refine hKK _ ?_
                clear hKK KK
                apply wpFree_pure rfl rfl
                · intro vs wx hk K hK
                  go_simp
                  exact hK _ (Stays.refl _)
                intro KK hKK
                go_simp
                refine hKK _ ?_
                clear hKK KK
                apply wpFree_pure rfl rfl
                · intro vs wx hk K hK
                  go_simp
                  exact hK _ (Stays.refl _)
                intro KK hKK
                go_simp
                refine hKK _ ?_
                clear hKK KK
                apply wpFree_pure rfl rfl
                · intro vs wx hk K hK
                  go_simp
                  exact hK _ (Stays.refl _)
                intro KK hKK
                go_simp
                refine hKK _ ?_
                clear hKK KK
                apply wpFree_pure rfl rfl
                · intro vs wx hk K hK
                  go_simp
                  exact hK _ (Stays.refl _)
                intro KK hKK
                go_simp
                refine hKK _ ?_
                clear hKK KK
                apply wpFree_pure rfl rfl
                · intro vs wx hk K hK
                  go_simp
                  exact hK _ (Stays.refl _)
                intro KK hKK
                go_simp
                refine hKK _ ?_
                clear hKK KK
                apply wpFree_pure rfl rfl
                · intro vs wx hk K hK
                  go_simp
                  exact hK _ (Stays.refl _)
                intro KK hKK
                go_simp
                refine hKK _ ?_
                clear hKK KK
                apply wpFree_pure rfl rfl
                · intro vs wx hk K hK
                  go_simp
                  exact hK _ (Stays.refl _)
                intro KK hKK
                go_simp
                refine hKK _ ?_
                clear hKK KK
                apply wpFree_pure rfl rfl
                · intro vs wx hk K hK
                  go_simp
                  exact hK _ (Stays.refl _)
                intro KK hKK
                go_simp
                refine hKK _ ?_
                clear hKK KK
                apply wpFree_pure rfl rfl
                · intro vs wx hk K hK
                  go_simp
                  exact hK _ (Stays.refl _)
                intro KK hKK
                go_simp
                refine hKK _ ?_
                clear hKK KK
                apply wpFree_pure rfl rfl
                · intro vs wx hk K hK
                  go_simp
                  exact hK _ (Stays.refl _)
                intro KK hKK
                go_simp
                refine hKK _ ?_
                clear hKK KK
                apply wpFree_pure rfl rfl
                · intro vs wx hk K hK
                  go_simp
                  exact hK _ (Stays.refl _)
                intro KK hKK
                go_simp
                refine hKK _ ?_
                clear hKK KK
                apply wpFree_pure rfl rfl
                · intro vs wx hk K hK
                  go_simp
                  exact hK _ (Stays.refl _)
                intro KK hKK
                go_simp
                refine hKK _ ?_
                clear hKK KK
                apply wpFree_pure rfl rfl
                · intro vs wx hk K hK
                  go_simp
                  exact hK _ (Stays.refl _)
                intro KK hKK
                go_simp
                refine hKK _ ?_
                clear hKK KK
                apply wpFree_pure rfl rfl
                · intro vs wx hk K hK
                  go_simp
                  exact hK _ (Stays.refl _)
                intro KK hKK
                go_simp
                refine hKK _ ?_
                clear hKK KK
                apply wpFree_pure rfl rfl
                · intro vs wx hk K hK
                  go_simp
                  exact hK _ (Stays.refl _)
                intro KK hKK
                go_simp
                refine hKK _ ?_
                clear hKK KK
                apply wpFree_pure rfl rfl
                · intro vs wx hk K hK
                  go_simp
                  exact hK _ (Stays.refl _)
                intro KK hKK
                go_simp
                refine hKK _ ?_
                clear hKK KK
                apply wpFree_pure rfl rfl
                · intro vs wx hk K hK
                  go_simp
                  exact hK _ (Stays.refl _)
                intro KK hKK
                go_simp
                refine hKK _ ?_
                clear hKK KK
                apply wpFree_pure rfl rfl
                · intro vs wx hk K hK
                  go_simp
                  exact hK _ (Stays.refl _)
                intro KK hKK
                go_simp
                refine hKK _ ?_
                clear hKK KK
                apply wpFree_pure rfl rfl
                · intro vs wx hk K hK
                  go_simp
                  exact hK _ (Stays.refl _)
                intro KK hKK
                go_simp
                refine hKK _ ?_
                clear hKK KK
                refine wpFree_nil ?_
                intro vs wx hsx _
                have HBW := Lib.hid (show Below wr.heap.size wr wx from hsx)
                intro KK hKK
                simp only [List.drop_succ_cons, List.drop_zero]
                have hcx := (HBW.out.cell (p := adb.add j) (by rw [block_of_add]; exact Nat.lt_of_lt_of_le hbb HBL.out.size)).trans HCB.out
                have HP := Lib.hid (show o ++ sb :: (ra.drop (ra.length)).merge (rb.drop (j + 1)) Rf.le = M from (by rw [← HH.out]; exact HMM.out))
                have hfw := HBW.out
                have HOW := Lib.hid (HO.out.below hfw)
                have HB2 := Lib.hid (HBL.out.trans (hfw.mono HBL.out.size))
                clear hfw HBW HMM
                have hdr : w5.heap.size ≤ wx.heap.size := HB2.out.size
                obtain ⟨v8, w8, hr8, ho8, hb8, -⟩ := t_append (wx.alloc (.cells #[.string (sb)] 9)) 33 w5.heap.size (.slice Ao o.length co) o (HOW.out.below ((Below.refl _ _).alloc (Nat.le_refl _) _)) ⟨wx.heap.size, 0, none⟩ 1 1 [sb] rfl (fun q u hu => by
                  rw [Addr.add_lit, Nat.zero_add, (Blk.new wx _ _).cell]
                  simpa using hu) (by omega) (by simp; omega)
                have HO8 := Lib.hid ho8
                have HB8 := Lib.hid (show Below w5.heap.size w5 w8 from (HB2.out.alloc HB2.out.size _).trans hb8)
                have HM8 := Lib.hid (show (o ++ [sb]) ++ (ra.drop (ra.length)).merge (rb.drop (j + 1)) Rf.le = M from by rw [List.append_assoc]; exact HP.out)
                obtain ⟨A8, c8, e8, -, -, -, -⟩ := ho8.form
                generalize hl8 : (o ++ [sb]).length = l8 at e8
                subst e8
                clear ho8 hb8
                rcases List.eq_nil_or_concat o with h0 | ⟨o', z, h0⟩
                · have hlz : (((o.length : Nat) : Int) == 0) = true := by rw [h0]; rfl
                  clear h0
                  go_wp2_with (first
                    | (refine wpList_appendD (v1 := .slice Ao o.length co) (vx := .slice (some ⟨wx.heap.size, 0, none⟩) 1 1) rfl (.tmp 83) (.tmp 85) 33 rfl rfl rfl hr8 ?_)
                    | fail)
                  go_roundw
                  case rel => exact ⟨ra.length, j + 1, o ++ [sb], by go_num, by go_num, by omega, by omega, HO8.out, HM8.out, HB8.out⟩
                  case measure => simp [intOf]; omega
                · have hol1 : o.length = o'.length + 1 := by rw [h0]; simp
                  have hz : z ≠ sb := fun e => by
                    have h1 := MN.out
                    rw [← HP.out, h0, e] at h1
                    simp [List.nodup_append] at h1
                  have hzs : (z.toList == (sb).toList) = false := by rw [toList_beq]; exact decide_eq_false hz
                  have hcell : ∃ bo, Ao = some ⟨bo, 0, none⟩ ∧ wx.cell? ⟨bo, o'.length, none⟩ = some (.string z) := by
                    rcases HOW.out.2 with ⟨_, h2⟩ | ⟨bo, cap, cur, hv, _, hh, h3, h4, h5, h6⟩
                    · omega
                    · cases hv
                      refine ⟨bo, rfl, ?_⟩
                      rw [(show Blk wx bo _ cur from hh).cell, ← Array.getElem?_toList]
                      have h7 : (cur.toList.take (o.length * 1))[o'.length]? = (o.map Value.string)[o'.length]? := by rw [h6]
                      rw [List.getElem?_take_of_lt (by omega), h0] at h7
                      rw [h7]
                      simp
                  obtain ⟨bo, rfl, hcell⟩ := hcell
                  have hwr2 : IntKind.i64.wrap ((o.length : Int) - 1) = (o'.length : Int) := by rw [IntKind.wrap_i64]; omega
                  have hop : o'.length < o.length := by omega
                  have hlz : (((o.length : Nat) : Int) == 0) = false := by rw [hol1]; simp; omega
                  have HOL := Lib.hid hol1
                  clear h0 hz hol1
                  go_wp2_with (first
                    | (refine wpList_appendD (v1 := .slice (some ⟨bo, 0, none⟩) o.length co) (vx := .slice (some ⟨wx.heap.size, 0, none⟩) 1 1) rfl (.tmp 83) (.tmp 85) 33 rfl rfl rfl hr8 ?_)
                    | fail)
                  go_roundw
                  case rel => exact ⟨ra.length, j + 1, o ++ [sb], by go_num, by go_num, by omega, by omega, HO8.out, HM8.out, HB8.out⟩
                  case measure => simp [intOf]; omega
            · skip
              obtain rfl : j = rb.length := by omega
              have hi1 : i < ra.length := by omega
              have hra := List.getElem?_eq_getElem hi1
              have hh := Rf.merge_drop (a := ra) (b := rb) (j := rb.length) hi1 (.inl (Nat.le_refl _))
              obtain ⟨ada, sa, hAa, hba, hsa1, hca⟩ := (SA.out.below HBL.out).in_ hi1
              subst hAa
              rw [hra] at hsa1
              have ea : ra[i] = sa := by injection hsa1
              have HCA := Lib.hid hca
              have hza := Lib.hid (MZ.out.1 sa (List.mem_of_getElem? (hra.trans hsa1)))
              clear hsa1 hca
              rw [ea] at hh
              have HH := Lib.hid hh
              clear hh hra ea
              go_upto_region 8 with fail
              refine wp_region_free 22 [] Stays (fun _ => none) (by kernel_rfl) (by kernel_rfl) Stays.refl (by simp) (Stays.draw _) Stays.trans (fun j φ v x y hB => by cases hB) ?_
              apply wpFree_pure rfl rfl
              · intro vs wx hk K hK
                go_simp
                exact hK _ (Stays.refl _)
              intro KK hKK
              go_simp
              refine hKK _ ?_
              clear hKK KK
              apply wpFree_pure rfl rfl
              · intro vs wx hk K hK
                go_simp
                exact hK _ (Stays.refl _)
              intro KK hKK
              go_simp
              refine hKK _ ?_
              clear hKK KK
              apply wpFree_pure rfl rfl
              · intro vs wx hk K hK
                go_simp
                exact hK _ (Stays.refl _)
              intro KK hKK
              go_simp
              refine hKK _ ?_
              clear hKK KK
              apply wpFree_pure rfl rfl
              · intro vs wx hk K hK
                go_simp
                exact hK _ (Stays.refl _)
              intro KK hKK
              go_simp
              refine hKK _ ?_
              clear hKK KK
              apply wpFree_pure rfl rfl
              · intro vs wx hk K hK
                go_simp
                exact hK _ (Stays.refl _)
              intro KK hKK
              go_simp
              refine hKK _ ?_
              clear hKK KK
              apply wpFree_pure rfl rfl
              · intro vs wx hk K hK
                go_simp
                exact hK _ (Stays.refl _)
              intro KK hKK
              go_simp
              refine hKK _ ?_
              clear hKK KK
              apply wpFree_pure rfl rfl
              · intro vs wx hk K hK
                go_simp
                exact hK _ (Stays.refl _)
              intro KK hKK
              go_simp
              refine hKK _ ?_
              clear hKK KK
              apply wpFree_pure rfl rfl
              · intro vs wx hk K hK
                go_simp
                exact hK _ (Stays.refl _)
              intro KK hKK
              go_simp
              refine hKK _ ?_
              clear hKK KK
              apply wpFree_pure rfl rfl
              · intro vs wx hk K hK
                go_simp
                exact hK _ (Stays.refl _)
              intro KK hKK
              go_simp
              refine hKK _ ?_
              clear hKK KK
              apply wpFree_pure rfl rfl
              · intro vs wx hk K hK
                go_simp
                exact hK _ (Stays.refl _)
              intro KK hKK
              go_simp
              refine hKK _ ?_
              clear hKK KK
              apply wpFree_pure rfl rfl
              · intro vs wx hk K hK
                go_simp
                exact hK _ (Stays.refl _)
              intro KK hKK
              go_simp
              refine hKK _ ?_
              clear hKK KK
              apply wpFree_pure rfl rfl
              · intro vs wx hk K hK
                go_simp
                exact hK _ (Stays.refl _)
              intro KK hKK
              go_simp
              refine hKK _ ?_
              clear hKK KK
              apply wpFree_pure rfl rfl
              · intro vs wx hk K hK
                go_simp
                exact hK _ (Stays.refl _)
              intro KK hKK
              go_simp
              refine hKK _ ?_
              clear hKK KK
              apply wpFree_pure rfl rfl
              · intro vs wx hk K hK
                go_simp
                exact hK _ (Stays.refl _)
              intro KK hKK
              go_simp
              refine hKK _ ?_
              clear hKK KK
              apply wpFree_pure rfl rfl
              · intro vs wx hk K hK
                go_simp
                exact hK _ (Stays.refl _)
              intro KK hKK
              go_simp
              refine hKK _ ?_
              clear hKK KK
              apply wpFree_pure rfl rfl
              · intro vs wx hk K hK
                go_simp
                exact hK _ (Stays.refl _)
              intro KK hKK
              go_simp
              refine hKK _ ?_
              clear hKK KK
              apply wpFree_pure rfl rfl
              · intro vs wx hk K hK
                go_simp
                exact hK _ (Stays.refl _)
              intro KK hKK
              go_simp
              refine hKK _ ?_
              clear hKK KK
              apply wpFree_pure rfl rfl
              · intro vs wx hk K hK
                go_simp
                exact hK _ (Stays.refl _)
              intro KK hKK
              go_simp
              refine hKK _ ?_
              clear hKK KK
              apply wpFree_pure rfl rfl
              · intro vs wx hk K hK
                go_simp
                exact hK _ (Stays.refl _)
              intro KK hKK
              go_simp
              refine hKK _ ?_
              clear hKK KK
              apply wpFree_pure rfl rfl
              · intro vs wx hk K hK
                go_simp
                exact hK _ (Stays.refl _)
              intro KK hKK
              go_simp
              refine hKK _ ?_
              clear hKK KK
              apply wpFree_pure rfl rfl
              · intro vs wx hk K hK
                go_simp
                exact hK _ (Stays.refl _)
              intro KK hKK
              go_simp
              refine hKK _ ?_
              clear hKK KK
              apply wpFree_pure rfl rfl
              · intro vs wx hk K hK
                go_simp
                exact hK _ (Stays.refl _)
              intro KK hKK
              go_simp
              refine hKK _ ?_
              clear hKK KK
              refine wpFree_nil ?_
              intro vs wx hsx _
              have HBW := Lib.hid (show Below wr.heap.size wr wx from hsx)
              intro KK hKK
              simp only [List.drop_succ_cons, List.drop_zero]
              have hcx := (HBW.out.cell (p := ada.add i) (by rw [block_of_add]; exact Nat.lt_of_lt_of_le hba HBL.out.size)).trans HCA.out
              have HP := Lib.hid (show o ++ sa :: (ra.drop (i + 1)).merge (rb.drop (rb.length)) Rf.le = M from (by rw [← HH.out]; exact HMM.out))
              have hfw := HBW.out
              have HOW := Lib.hid (HO.out.below hfw)
              have HB2 := Lib.hid (HBL.out.trans (hfw.mono HBL.out.size))
              clear hfw HBW HMM
              have hdr : w5.heap.size ≤ wx.heap.size := HB2.out.size
              obtain ⟨v8, w8, hr8, ho8, hb8, -⟩ := t_append (wx.alloc (.cells #[.string (sa)] 9)) 33 w5.heap.size (.slice Ao o.length co) o (HOW.out.below ((Below.refl _ _).alloc (Nat.le_refl _) _)) ⟨wx.heap.size, 0, none⟩ 1 1 [sa] rfl (fun q u hu => by
                rw [Addr.add_lit, Nat.zero_add, (Blk.new wx _ _).cell]
                simpa using hu) (by omega) (by simp; omega)
              have HO8 := Lib.hid ho8
              have HB8 := Lib.hid (show Below w5.heap.size w5 w8 from (HB2.out.alloc HB2.out.size _).trans hb8)
              have HM8 := Lib.hid (show (o ++ [sa]) ++ (ra.drop (i + 1)).merge (rb.drop (rb.length)) Rf.le = M from by rw [List.append_assoc]; exact HP.out)
              obtain ⟨A8, c8, e8, -, -, -, -⟩ := ho8.form
              generalize hl8 : (o ++ [sa]).length = l8 at e8
              subst e8
              clear ho8 hb8
              rcases List.eq_nil_or_concat o with h0 | ⟨o', z, h0⟩
              · have hlz : (((o.length : Nat) : Int) == 0) = true := by rw [h0]; rfl
                clear h0
                go_wp2_with (first
                  | (refine wpList_appendD (v1 := .slice Ao o.length co) (vx := .slice (some ⟨wx.heap.size, 0, none⟩) 1 1) rfl (.tmp 83) (.tmp 85) 33 rfl rfl rfl hr8 ?_)
                  | fail)
                go_roundw
                case rel => exact ⟨i + 1, rb.length, o ++ [sa], by go_num, by go_num, by omega, by omega, HO8.out, HM8.out, HB8.out⟩
                case measure => simp [intOf]; omega
              · have hol1 : o.length = o'.length + 1 := by rw [h0]; simp
                have hz : z ≠ sa := fun e => by
                  have h1 := MN.out
                  rw [← HP.out, h0, e] at h1
                  simp [List.nodup_append] at h1
                have hzs : (z.toList == (sa).toList) = false := by rw [toList_beq]; exact decide_eq_false hz
                have hcell : ∃ bo, Ao = some ⟨bo, 0, none⟩ ∧ wx.cell? ⟨bo, o'.length, none⟩ = some (.string z) := by
                  rcases HOW.out.2 with ⟨_, h2⟩ | ⟨bo, cap, cur, hv, _, hh, h3, h4, h5, h6⟩
                  · omega
                  · cases hv
                    refine ⟨bo, rfl, ?_⟩
                    rw [(show Blk wx bo _ cur from hh).cell, ← Array.getElem?_toList]
                    have h7 : (cur.toList.take (o.length * 1))[o'.length]? = (o.map Value.string)[o'.length]? := by rw [h6]
                    rw [List.getElem?_take_of_lt (by omega), h0] at h7
                    rw [h7]
                    simp
                obtain ⟨bo, rfl, hcell⟩ := hcell
                have hwr2 : IntKind.i64.wrap ((o.length : Int) - 1) = (o'.length : Int) := by rw [IntKind.wrap_i64]; omega
                have hop : o'.length < o.length := by omega
                have hlz : (((o.length : Nat) : Int) == 0) = false := by rw [hol1]; simp; omega
                have HOL := Lib.hid hol1
                clear h0 hz hol1
                go_wp2_with (first
                  | (refine wpList_appendD (v1 := .slice (some ⟨bo, 0, none⟩) o.length co) (vx := .slice (some ⟨wx.heap.size, 0, none⟩) 1 1) rfl (.tmp 83) (.tmp 85) 33 rfl rfl rfl hr8 ?_)
                  | fail)
                go_roundw
                case rel => exact ⟨i + 1, rb.length, o ++ [sa], by go_num, by go_num, by omega, by omega, HO8.out, HM8.out, HB8.out⟩
                case measure => simp [intOf]; omega
end Go.Proofs.YtlbdpcokddpjpaaGreatDoor
