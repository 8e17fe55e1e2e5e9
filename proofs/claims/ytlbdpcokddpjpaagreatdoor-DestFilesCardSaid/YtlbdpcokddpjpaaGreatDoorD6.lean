/- Parts, joined. -/
import Derived.Test.YtlbdpcokddpjpaaGreatDoorShelf
import Derived.Test.YtlbdpcokddpjpaaGreatDoorRk5
import Derived.Test.YtlbdpcokddpjpaaGreatDoorD5
import Derived.StringKeys
import Derived.Sort.KeysCollected
import Derived.Sort.OwnSorted
import Derived.RangeFuncBound
import Derived.Shelf.AbstractIn
import Derived.WalkKit
/- slices.SortedFunc over maps.Keys, by bits.Compare: the keys of a map of texts, sorted. No conditions but those stated. -/
namespace Go.Proofs.YtlbdpcokddpjpaaGreatDoor
set_option linter.unusedVariables false
open Go Go.RowKit Go.Maps Go.Sort Go.Shelf Go.Proofs
open Go.WideElems (Fit rd rg rd_key rg_of)
noncomputable def rdAny : Value → Option (DataW Unit × List MemPlace) := fun _ => some (.nil, [])
noncomputable def keyL (x : MapEntry) : List UInt8 := match x.key with
  | .string k => k.data.toList
  | _ => []
noncomputable def datOf (es : Array MapEntry) : DataW Unit := .map ((es.toList.map (rg Tryz.prog 9 rdAny)).foldr DataW.insert [])
theorem rd_any {x : MapEntry} {k : ByteArray} (hk : x.key = .string k) (hs : k.size ≤ 1000000) : rd Tryz.prog 9 rdAny x = some (.string k.data.toList, .nil) := by
  unfold Go.WideElems.rd
  rw [hk, Go.WideMaps.keyOf_string_mk Tryz.underlying9 (by unfold maxLen; omega)]
  rfl
section
variable {b clock : Nat} {es : Array MapEntry} {w : World}
theorem owns_any (hb : w.heap[b]? = some (.map es clock)) (hold : ∀ x ∈ es.toList, x.born < clock) (hn : (es.toList.map (·.born)).Nodup) (hstr : ∀ x ∈ es.toList, ∃ k, x.key = .string k ∧ k.size ≤ 1000000) (hk : (es.toList.map (·.key)).Nodup) (hs : es.size ≤ 1000000) :
    w.ownsMap Tryz.prog 9 rdAny b es.size (datOf es) :=
  ⟨es, clock, hb, ⟨by unfold maxLen; omega, ⟨hold, hn, hk⟩, fun x hx => by
    obtain ⟨k, h1, h2⟩ := hstr x hx
    exact ⟨_, rd_any h1 h2⟩⟩, Nat.le_refl _, rfl⟩
set_option maxRecDepth 100000 in
theorem keys_perm (hstr : ∀ x ∈ es.toList, ∃ k, x.key = .string k ∧ k.size ≤ 1000000) : (strKeys (datOf es)).Perm (es.toList.map keyL) := by
  show (List.map (fun p : Lit × DataW Unit => strOf p.1) ((es.toList.map (rg Tryz.prog 9 rdAny)).foldr DataW.insert [])).Perm _
  have h1 := (Go.WideShapes.sorted_perm (es.toList.map (rg Tryz.prog 9 rdAny))).map fun p : Lit × DataW Unit => strOf p.1
  refine h1.trans (List.Perm.of_eq ?_)
  rw [List.map_map]
  refine List.map_congr_left (fun x hx => ?_)
  obtain ⟨k, h1, h2⟩ := hstr x hx
  show strOf (rg Tryz.prog 9 rdAny x).1 = keyL x
  rw [rg_of (rd_any h1 h2)]
  unfold keyL
  rw [h1]
  rfl
theorem size_dat : Maps.size (datOf es) = es.size := by
  unfold datOf Maps.size
  simp [length_sorted]
end
set_option maxRecDepth 100000 in
theorem cmp_any (x y : ByteArray) (w : World) : Calls Tryz.prog 44 #[.string x, .string y] w fun e w' => e = .returned (.int .i64 (Lib.compareBytes x.data.toList y.data.toList)) ∧ w' = w := by
  go_enter Tryz.func44, Tryz.ntmps44
  go_wp2_with (go_at_call 88; refine (Tryz.strings_Compare x y w).mono ?_; rintro e w' ⟨rfl, rfl⟩)
  go_ret
  exact ⟨rfl, rfl⟩
theorem cmp_reads (blk off size : Nat) (w : World) : CmpReads Tryz.prog 44 #[] encStr Lib.compareBytes blk off size w := fun m os dk _ x y =>
  (cmp_any ⟨x.toArray⟩ ⟨y.toArray⟩ _).mono fun e w' ⟨h1, h2⟩ => ⟨h1, 0, h2⟩
theorem cmp_nat (x y : List UInt8) : Lib.compareBytes x y = Rk.cmpA (x.map UInt8.toNat) (y.map UInt8.toNat) := by
  have := Rk.cmp_toA ⟨x.toArray⟩ ⟨y.toArray⟩
  simpa [Rk.toA] using this
theorem cmpA_neg : ∀ x y : List Nat, Rk.cmpA y x = - Rk.cmpA x y
  | [], [] => rfl
  | [], _ :: _ => rfl
  | _ :: _, [] => rfl
  | a :: x, b :: y => by
    unfold Rk.cmpA
    rcases Nat.lt_trichotomy a b with h | h | h
    · simp [h, Nat.lt_asymm h]
    · subst h; simpa using cmpA_neg x y
    · simp [h, Nat.lt_asymm h]
theorem lt_iff (x y : List UInt8) : ltOf Lib.compareBytes x y = true ↔ ¬ Rk.cmpA (y.map UInt8.toNat) (x.map UInt8.toNat) ≤ 0 := by
  unfold ltOf
  rw [decide_eq_true_eq, cmp_nat, cmpA_neg (x.map _) (y.map _)]
  omega
theorem lt_false (x y : List UInt8) : ltOf Lib.compareBytes x y = false ↔ Rk.cmpA (y.map UInt8.toNat) (x.map UInt8.toNat) ≤ 0 := by
  have := lt_iff x y
  cases h : ltOf Lib.compareBytes x y
  · rw [h] at this
    simpa using this
  · rw [h] at this
    simpa using this
theorem swo : SWO (ltOf Lib.compareBytes) where
  irrefl x := (lt_false x x).2 (by rw [Rk.cmpA_refl]; exact Int.le_refl _)
  trans x y z h1 h2 := (lt_iff x z).2 fun h => by
    have h3 := (lt_iff x y).1 h1
    have h4 := (lt_iff y z).1 h2
    rcases Rk.cmpA_le_total (x.map UInt8.toNat) (y.map UInt8.toNat) with h5 | h5
    · exact h4 (Rk.cmpA_le_trans _ _ _ h h5)
    · exact h3 h5
  ntrans x y z h1 h2 := (lt_false x z).2 (Rk.cmpA_le_trans _ _ _ ((lt_false y z).1 h2) ((lt_false x y).1 h1))
theorem toNat_inj : ∀ {x y : List UInt8}, x.map UInt8.toNat = y.map UInt8.toNat → x = y := fun {x y} h => List.map_inj_right (fun a b h => UInt8.toNat_inj.1 h) |>.1 h
theorem tot (x y : List UInt8) (h1 : ltOf Lib.compareBytes x y = false) (h2 : ltOf Lib.compareBytes y x = false) : x = y :=
  toNat_inj (Rk.cmpA_le_antisymm _ _ ((lt_false y x).1 h2) ((lt_false x y).1 h1))
abbrev sorted_ (ss : List (List UInt8)) : List (List UInt8) := ss.mergeSort fun x y => !ltOf Lib.compareBytes y x
theorem sorted_pair (ss : List (List UInt8)) : (sorted_ ss).Pairwise fun a b => Lib.compareBytes a b ≤ 0 := by
  have h : (sorted_ ss).Pairwise fun a b => (!ltOf Lib.compareBytes b a) = true := List.pairwise_mergeSort (fun a b c h1 h2 => by
    simp only [Bool.not_eq_true'] at h1 h2 ⊢
    exact swo.ntrans c b a h2 h1) (fun a b => by
    simp only [Bool.or_eq_true, Bool.not_eq_true']
    rcases Rk.cmpA_le_total (a.map UInt8.toNat) (b.map UInt8.toNat) with h | h
    · exact .inl ((lt_false b a).2 h)
    · exact .inr ((lt_false a b).2 h)) ss
  refine h.imp (fun {a b} hab => ?_)
  rw [cmp_nat]
  exact (lt_false b a).1 (by simpa using hab)
set_option maxRecDepth 100000 in
set_option maxHeartbeats 2000000 in
theorem sorted_gen (g : Nat) (eg : ∀ args w, (callFunc g args).run Tryz.prog w = .ok (.enter g args) w) (bm N : Nat) (K : List (List UInt8)) (w : World) (hN : N ≤ 1000000)
    (hseq : SeqGives Fence.wide 3 Tryz.prog g #[.pointer (some ⟨bm, 0, none⟩)] encStr (fun ss => ss.Perm K) N w) :
    CallsIn Fence.wide 6 Tryz.prog 42 #[.func (.func g) #[] #[.pointer (some ⟨bm, 0, none⟩)], .func (.func 44) #[] #[]] w fun e w' => Below w.heap.size w w' ∧ ∃ ss : List (List UInt8), ss.Perm K ∧ ss.Pairwise (fun a b => Lib.compareBytes a b ≤ 0) ∧
      ((ss = [] ∧ e = .returned (.slice none 0 0)) ∨ (ss ≠ [] ∧ ∃ gb cap cur, e = .returned (.slice (some ⟨gb, 0, none⟩) ss.length cap) ∧ w.heap.size ≤ gb ∧ w'.heap[gb]? = some (.cells cur 9 (0, 0)) ∧ ss.length ≤ cap ∧ cap ≤ cur.size ∧ ∀ (j : Nat) x, ss[j]? = some x → cur[j]? = some (encStr x))) := by
  have cC := AnyZ.collect_in Tryz.coA Fence.wide 5 trivial trivial rfl (by omega) g #[.pointer (some ⟨bm, 0, none⟩)] trivial eg _ _ (by unfold maxLen; omega) (by omega) w hseq.bounded
  change CallsIn _ _ Tryz.prog 85 _ _ _ at cC
  have e130 : Fence.wide.fn 85 := trivial
  have e131 : Fence.wide.fn 86 := trivial
  refine callsIn_of_wp Tryz.func42 rfl trivial ?_ rfl
  simp only [Tryz.ntmps42, List.size_toArray, List.length_cons, List.length_nil, Nat.reduceAdd, Nat.reduceSub, Array.replicate_succ, Array.replicate_zero, List.push_toArray, List.append_toArray, List.nil_append, List.cons_append]
  gi_wp2_with (gi_at_call 85; refine cC.mono ?_; rintro e W ⟨v, ss, rfl, ⟨hS, hlen⟩, hrow, hnil, hb⟩)
  rcases hrow.2 with ⟨rfl, hz⟩ | ⟨gb, cap, cur, rfl, hbase, hgb, r1, r2, r3, r4⟩
  · have hss : ss = [] := List.eq_nil_of_length_eq_zero hz
    subst hss
    have cS := callsIn_wide (n := 5).2 (AnyF.slices_SortFunc_none { Tryz.soA with } none 0 (.func (.func 44) #[] #[]) W)
    change CallsIn _ _ Tryz.prog 86 _ _ _ at cS
    gi_wp2_with (gi_at_call 86; refine cS.mono ?_; rintro e w' ⟨rfl, rfl⟩)
    go_ret
    exact ⟨hb, [], hS, List.Pairwise.nil, .inl ⟨rfl, rfl⟩⟩
  · have hH : Holds encStr W gb 0 ss.toArray := holds_of_block hgb (by simpa using r4)
    have hgl : gb < W.heap.size := (Array.getElem?_eq_some_iff.1 hgb).1
    have hsz : ss.toArray.size < 4611686018427387904 := by simp only [List.size_toArray]; omega
    have cS := callsIn_wide (n := 5).2 (Any.slices_SortFunc_total Tryz.soA encStr (fun _ => rfl) Lib.compareBytes swo 44 #[] gb 0 cap ss.toArray W (enters_of Tryz.func44 (by kernel_rfl) rfl) (cmp_reads gb 0 ss.toArray.size W).lays hH hgl hsz tot)
    change CallsIn _ _ Tryz.prog 86 _ _ _ at cS
    simp only [List.size_toArray] at cS
    gi_wp2_with (gi_at_call 86; refine cS.mono ?_; rintro e w' ⟨rfl, nn, os, rfl⟩)
    go_ret
    have hown := ownsRow_sorted (ts := sorted_ ss) (os := os) (n := nn) (by simp [sorted_]) hbase hgb r1 r2 r3
    have hrc := hown.2
    have hlen2 : (sorted_ ss).length = ss.length := by simp [sorted_]
    have hb2 : Below w.heap.size w (sortWorld encStr W gb 0 nn (sorted_ ss).toArray os) := hb.grown (grownBy_sorted _) hb.size (fun j hj => by cases hj; exact hbase)
    have hperm : (sorted_ ss).Perm ss := List.mergeSort_perm ss _
    refine ⟨hb2, sorted_ ss, hperm.trans hS, sorted_pair ss, ?_⟩
    have hne : ss ≠ [] := fun h => by have := hnil.2 h; cases this
    refine .inr ⟨fun h => hne (by have := hperm; rw [h] at this; exact this.nil_eq.symm), gb, cap, ?_⟩
    rcases hrc with ⟨h1, _⟩ | ⟨g2, cap2, cur2, h1, h2, h3, h4, h5, h6, h7⟩
    · cases h1
    · cases h1
      refine ⟨cur2, by rw [hlen2]; rfl, hbase, h3, by rw [hlen2]; exact r1, by omega, fun j x hx => ?_⟩
      have h8 : (cur2.toList.take (ss.length * 1))[j]? = ((sorted_ ss).map encStr)[j]? := by rw [h7]
      have hj : j < ss.length := by rw [← hlen2]; exact (List.getElem?_eq_some_iff.1 hx).1
      rw [List.getElem?_take_of_lt (by omega), List.getElem?_map, hx, Array.getElem?_toList] at h8
      exact h8
theorem sorted_told (g : Nat) (eg : ∀ args w, (callFunc g args).run Tryz.prog w = .ok (.enter g args) w)
    (hgen : ∀ (bm b nn : Nat) (D : DataW Unit) (w : World), bm < w.heap.size → w.cell? ⟨bm, 0, none⟩ = some (.map (some b)) → w.ownsMap Tryz.prog 9 rdAny b nn D → SeqGives Fence.wide 3 Tryz.prog g #[.pointer (some ⟨bm, 0, none⟩)] encStr (fun ss => ss.Perm (strKeys D)) (Maps.size D) w)
    (bm b clock : Nat) (es : Array MapEntry) (w : World) (hm : w.cell? ⟨bm, 0, none⟩ = some (.map (some b))) (hb : w.heap[b]? = some (.map es clock)) (hold : ∀ x ∈ es.toList, x.born < clock) (hn : (es.toList.map (·.born)).Nodup) (hstr : ∀ x ∈ es.toList, ∃ k, x.key = .string k ∧ k.size ≤ 1000000) (hk : (es.toList.map (·.key)).Nodup) (hs : es.size ≤ 1000000) :
    Calls Tryz.prog 42 #[.func (.func g) #[] #[.pointer (some ⟨bm, 0, none⟩)], .func (.func 44) #[] #[]] w fun e w' => Below w.heap.size w w' ∧ ∃ xs : List ByteArray, (xs.map Value.string).Perm (es.toList.map (·.key)) ∧ xs.Pairwise (fun a b => Lib.compareBytes a.data.toList b.data.toList ≤ 0) ∧
        ((xs = [] ∧ e = .returned (.slice none 0 0)) ∨ (xs ≠ [] ∧ ∃ gb cap cur, e = .returned (.slice (some ⟨gb, 0, none⟩) xs.length cap) ∧ w.heap.size ≤ gb ∧ w'.heap[gb]? = some (.cells cur 9 (0, 0)) ∧ xs.length ≤ cap ∧ cap ≤ cur.size ∧ ∀ (j : Nat) x, xs[j]? = some x → cur[j]? = some (.string x))) := by
  have hbm : bm < w.heap.size := by
    rcases Nat.lt_or_ge bm w.heap.size with h | h
    · exact h
    · simp [World.cell?, Array.getElem?_eq_none h] at hm
  have hown := owns_any hb hold hn hstr hk hs
  have hseq := hgen bm b es.size (datOf es) w hbm hm hown
  refine (callsIn_wide.1 (sorted_gen g eg bm _ _ w (by rw [size_dat]; exact hs) hseq)).mono ?_
  rintro e w' ⟨hbw, ss, hp, hpw, hrest⟩
  have hmap : ∀ x : List UInt8, (⟨x.toArray⟩ : ByteArray).data.toList = x := fun x => by simp
  refine ⟨hbw, ss.map (fun x => ⟨x.toArray⟩), ?_, ?_, ?_⟩
  · have h1 := (hp.trans (keys_perm hstr)).map encStr
    rw [List.map_map] at h1 ⊢
    refine h1.trans (List.Perm.of_eq ?_)
    refine List.map_congr_left (fun x hx => ?_)
    obtain ⟨k, h2, _⟩ := hstr x hx
    show encStr (keyL x) = x.key
    unfold keyL
    rw [h2]
  · exact List.Pairwise.map _ (fun a b hab => by rw [hmap, hmap]; exact hab) hpw
  · rcases hrest with ⟨rfl, h2⟩ | ⟨h1, gb, cap, cur, h2, h3, h4, h5, h6, h7⟩
    · exact .inl ⟨rfl, h2⟩
    · refine .inr ⟨by simpa using h1, gb, cap, cur, by rw [List.length_map]; exact h2, h3, h4, by rw [List.length_map]; exact h5, h6, fun j x hx => ?_⟩
      rw [List.getElem?_map, Option.map_eq_some_iff] at hx
      obtain ⟨y, hy, rfl⟩ := hx
      exact h7 j y hy
/-- The keys of a disk's map, sorted. -/
theorem sorted_files (bm b clock : Nat) (es : Array MapEntry) (w : World) (hm : w.cell? ⟨bm, 0, none⟩ = some (.map (some b))) (hb : w.heap[b]? = some (.map es clock)) (hold : ∀ x ∈ es.toList, x.born < clock) (hn : (es.toList.map (·.born)).Nodup) (hstr : ∀ x ∈ es.toList, ∃ k, x.key = .string k ∧ k.size ≤ 1000000) (hk : (es.toList.map (·.key)).Nodup) (hs : es.size ≤ 1000000) :
    Calls Tryz.prog 42 #[.func (.func 87) #[] #[.pointer (some ⟨bm, 0, none⟩)], .func (.func 44) #[] #[]] w fun e w' => Below w.heap.size w w' ∧ ∃ xs : List ByteArray, (xs.map Value.string).Perm (es.toList.map (·.key)) ∧ xs.Pairwise (fun a b => Lib.compareBytes a.data.toList b.data.toList ≤ 0) ∧
        ((xs = [] ∧ e = .returned (.slice none 0 0)) ∨ (xs ≠ [] ∧ ∃ gb cap cur, e = .returned (.slice (some ⟨gb, 0, none⟩) xs.length cap) ∧ w.heap.size ≤ gb ∧ w'.heap[gb]? = some (.cells cur 9 (0, 0)) ∧ xs.length ≤ cap ∧ cap ≤ cur.size ∧ ∀ (j : Nat) x, xs[j]? = some x → cur[j]? = some (.string x))) :=
  sorted_told 87 (enters_of Tryz.func87 (by kernel_rfl) rfl) (fun bm b nn D w h1 h2 h3 => AnyZ.keys_gives (ρ := Tryz.itB_ren) { Tryz.itB with } Fence.wide 3 trivial rfl (by omega) bm b nn D w h1 h2 h3) bm b clock es w hm hb hold hn hstr hk hs
end Go.Proofs.YtlbdpcokddpjpaaGreatDoor

/- A disk in memory: List. -/
namespace Go.Proofs.YtlbdpcokddpjpaaGreatDoor
set_option linter.unusedVariables false
open Go Go.RowKit Go.BigFrame Go.Lib Go.Sort Go.Shelf Go.Proofs
section
variable {g m : Nat} {d : Dk.Disk}
/-- The names of a list of files that begin with something, sorted. -/
def Dk.Listed (l : List (ByteArray × Dk.File)) (p : ByteArray) (r : List ByteArray) : Prop :=
  ∃ xs : List ByteArray, xs.Perm (Dk.keys l) ∧ xs.Pairwise (fun a b => Lib.compareBytes a.data.toList b.data.toList ≤ 0) ∧ r = xs.filter fun x => Lib.hasPrefix x.data.toList p.data.toList
set_option maxRecDepth 100000 in
theorem list1_any (x p : ByteArray) (B : Nat) (W : World) (hc : W.cell? ⟨B, 0, none⟩ = some (.string p)) :
    FnGives Tryz.prog 46 #[.pointer (some ⟨B, 0, none⟩)] #[.string x] (.bool (!Lib.hasPrefix x.data.toList p.data.toList)) W := by
  show Calls Tryz.prog 46 #[.string x, .pointer (some ⟨B, 0, none⟩)] W _
  have K := Tryz.strings_HasPrefix x p W
  generalize Lib.hasPrefix x.data.toList p.data.toList = r at *
  go_enter Tryz.func46, Tryz.ntmps46
  go_wp2_with (go_at_call 47; refine K.mono ?_; rintro e w' ⟨rfl, rfl⟩)
  go_ret
  exact ⟨rfl, 0, rfl⟩
set_option maxRecDepth 100000 in
theorem keys_any (w : World) (m : Nat) : Calls Tryz.prog 43 #[.map (some m)] w fun e w' =>
    e = .returned (.func (.func 87) #[] #[.pointer (some ⟨w.heap.size, 0, none⟩)]) ∧ w' = w.alloc (.cells #[.map (some m)] 57) := by
  go_enter Tryz.func43, Tryz.ntmps43
  go_wp2
  go_ret
  exact ⟨rfl, rfl⟩
set_option maxRecDepth 100000 in
theorem deleteNil_any (w : World) (fv : Value) : Calls Tryz.prog 45 #[.slice none 0 0, fv] w fun e w' => e = .returned (.slice none 0 0) ∧ w' = w := by
  have K := Tryz.slices_IndexFunc_empty_f89 (α := Nat) none 0 fv w
  go_enter Tryz.func45, Tryz.ntmps45
  go_wp2_with (go_at_call 89; refine K.mono ?_; rintro e w' ⟨rfl, rfl⟩)
  go_ret
  exact ⟨rfl, rfl⟩
abbrev bys (xs : List ByteArray) : List (List UInt8) := xs.map fun x => x.data.toList
theorem filter_map_data (xs : List ByteArray) (p : ByteArray) : (bys xs).toArray.toList.filter (fun x => !!Lib.hasPrefix x p.data.toList) = bys (xs.filter fun x => Lib.hasPrefix x.data.toList p.data.toList) := by
  simp only [Bool.not_not, bys, List.filter_map]
  rfl
set_option maxRecDepth 100000 in
theorem delete_any (w : World) (p : ByteArray) (B gb cap : Nat) (cur : Array Value) (xs : List ByteArray) (hc : w.cell? ⟨B, 0, none⟩ = some (.string p)) (hB : B < w.heap.size) (hne : B ≠ gb) (hg : Blk w gb 9 cur) (h1 : xs.length ≤ cap) (h2 : cap ≤ cur.size) (h3 : ∀ (j : Nat) x, xs[j]? = some x → cur[j]? = some (.string x)) (hbig : xs.length ≤ 9223372036854775807) :
    Calls Tryz.prog 45 #[.slice (some ⟨gb, 0, none⟩) xs.length cap, .func (.func 46) #[] #[.pointer (some ⟨B, 0, none⟩)]] w fun e w' => ∃ l, l = (xs.filter fun x => Lib.hasPrefix x.data.toList p.data.toList) ∧ e = .returned (.slice (some ⟨gb, 0, none⟩) l.length cap) ∧ StrsAt w' w'.heap.size (some ⟨gb, 0, none⟩) l.length l ∧ w.grownBy w' (some gb) := by
  have hH : Holds encStr w gb 0 (bys xs).toArray := by
    intro j hj
    simp only [List.size_toArray, List.length_map] at hj
    rw [Nat.zero_add]
    refine ⟨?_, hg.frozen j⟩
    rw [hg.cell, h3 j _ (List.getElem?_eq_getElem hj)]
    simp [encStr, hj]
  have K := Tryz.slices_DeleteFunc encStr (fun _ => rfl) (fun x => !Lib.hasPrefix x p.data.toList) 46 #[.pointer (some ⟨B, 0, none⟩)] (enters_of Tryz.func46 (by kernel_rfl) rfl) [] (fun w => Tryz.zeroValue9 w) gb 0 cap (bys xs).toArray w
    (fun W x hb => by have := list1_any ⟨x.toArray⟩ p B W ((hb.cell (p := ⟨B, 0, none⟩) hB).trans hc); simpa [encStr] using this)
    (fun n os dk x _ => by
      have := list1_any ⟨x.toArray⟩ p B (sortWorld encStr w gb 0 n dk os) (by
        unfold sortWorld
        rw [cell?_grow _ _ _ (by show B < (putRow _ _ _ _ _).heap.size; rw [size_putRow]; exact hB), cell?_putRow_other _ _ gb 0 _ _ (Or.inl hne)]
        exact hc)
      simpa [encStr] using this) hH (by simpa using hbig) (by simpa using h1)
  simp only [List.size_toArray, List.length_map] at K
  refine K.mono ?_
  rw [filter_map_data]
  rintro e w' ⟨rfl, q, rfl⟩
  have hl : (xs.filter fun x : ByteArray => Lib.hasPrefix x.data.toList p.data.toList).length ≤ xs.length := List.length_filter_le _ _
  refine ⟨_, rfl, by simp, ⟨by simp, fun hn => ⟨_, rfl, ?_, fun j u hu => ?_⟩⟩, ?_⟩
  · rw [size_putRow]; exact hg.lt
  · rw [List.getElem?_map, Option.map_eq_some_iff] at hu
    obtain ⟨x, hx, rfl⟩ := hu
    have hj : j < (xs.filter fun x : ByteArray => Lib.hasPrefix x.data.toList p.data.toList).length := (List.getElem?_eq_some_iff.1 hx).1
    rw [Addr.add_lit, Nat.zero_add]
    have := cell?_putRow encStr (Sort.ahead w q) gb 0 (bys xs).toArray (((bys (xs.filter fun x : ByteArray => Lib.hasPrefix x.data.toList p.data.toList)) ++ List.replicate (xs.length - (bys (xs.filter fun x : ByteArray => Lib.hasPrefix x.data.toList p.data.toList)).length) []).toArray) (fun j hj => hH j hj) (by simp; omega) j (by simp; omega)
    rw [Nat.zero_add] at this
    rw [this]
    have hx2 : (bys (xs.filter fun x : ByteArray => Lib.hasPrefix x.data.toList p.data.toList))[j]? = some x.data.toList := by rw [List.getElem?_map, hx]; rfl
    have hx3 : ((((bys (xs.filter fun x : ByteArray => Lib.hasPrefix x.data.toList p.data.toList)) ++ List.replicate (xs.length - (bys (xs.filter fun x : ByteArray => Lib.hasPrefix x.data.toList p.data.toList)).length) []).toArray))[j]? = some x.data.toList := by
      rw [List.getElem?_toArray, List.getElem?_append_left (by simpa using hj), hx2]
    rw [getElem!_def, hx3]
  · have := grownBy_sorted (w := w) (g := gb) (n := q) (os := #[]) ((bys (xs.filter fun x : ByteArray => Lib.hasPrefix x.data.toList p.data.toList)) ++ List.replicate (xs.length - (bys (xs.filter fun x : ByteArray => Lib.hasPrefix x.data.toList p.data.toList)).length) []).toArray
    rwa [grow_empty] at this
theorem isKey_file {es : List MapEntry} {l : List (ByteArray × Dk.File)} (hl : es.map (fun e => (e.key, e.val)) = l.map fun p => (Value.string p.1, fileV p.2)) : es.map (·.key) = (Dk.keys l).map Value.string := by
  have := congrArg (List.map Prod.fst) hl
  simpa [Dk.keys, Function.comp_def] using this
set_option maxRecDepth 100000 in
set_option maxHeartbeats 1000000 in
theorem list_any (w : World) (h : DiskAt w g m d) (hf : Dk.Fine d) (hk : ∀ q ∈ d.files, q.1.size ≤ 1000000) (p : ByteArray) :
    Calls Tryz.prog 12 #[.pointer (some ⟨g, 0, none⟩), .string p] w fun e w' => Below w.heap.size w w' ∧ ∃ A n c l, e = .returned (.slice A n c) ∧ StrsAt w' w'.heap.size A n l ∧ l.length = n ∧ (d.on = false → l = []) ∧ (d.on = true → Dk.Listed d.files p l) := by
  have hb1 : Below w.heap.size w (w.alloc (.cells #[.string p] 9)) := (Below.refl _ w).alloc (Nat.le_refl _) _
  have hB := Blk.new w 9 #[.string p]
  have KO := Lib.hid (on_any _ g m d (h.below hb1))
  have HD := Lib.hid (h.below hb1)
  have HB1 := Lib.hid hb1
  have HFI := Lib.hid hf
  have HK := Lib.hid hk
  have HB := Lib.hid hB
  clear h hb1 hB hf hk
  go_enter Tryz.func12, Tryz.ntmps12
  go_wp2_with fail
  refine KO.out.mono ?_
  rintro x w2 ⟨rfl, rfl⟩
  cases hon : d.on with
  | false =>
    go_wp2
    go_ret
    exact ⟨HB1.out, none, 0, 0, [], rfl, Reads.nil, rfl, fun _ => rfl, fun h => absurd (hon.symm.trans h) (by simp)⟩
  | true =>
    have HD' := HD.out
    obtain ⟨⟨fp, acts, hbk, _⟩, hm⟩ := HD'
    have c := fun i => hbk.cell i
    clear hbk
    obtain ⟨es, clock, hbm, hst, hl⟩ := hm
    have hz1 : (w.alloc (.cells #[.string p] 9)).heap.size = w.heap.size + 1 := by simp
    have hkeys := isKey_file hl
    have hlen : es.toList.length = d.files.length := by
      have := congrArg List.length hl
      simpa using this
    have KK := Lib.hid (show Calls Tryz.prog 43 #[.map (some m)] (w.alloc (.cells #[.string p] 9)) (fun e w' => e = .returned (.func (.func 87) #[] #[.pointer (some ⟨w.heap.size + 1, 0, none⟩)]) ∧ w' = (w.alloc (.cells #[.string p] 9)).alloc (.cells #[.map (some m)] 57)) from by have := keys_any (w.alloc (.cells #[.string p] 9)) m; rwa [hz1] at this)
    have KS := Lib.hid (sorted_files (w.heap.size + 1) m clock es ((w.alloc (.cells #[.string p] 9)).alloc (.cells #[.map (some m)] 57)) (by have := (Blk.new (w.alloc (.cells #[.string p] 9)) 57 #[.map (some m)]).cell 0; rwa [hz1] at this) ((Below.heap_alloc _ _ _ (Array.getElem?_eq_some_iff.1 hbm).1).trans hbm) hst.1 hst.2.1 (fun x hx => by
        have h1 : x.key ∈ es.toList.map (·.key) := List.mem_map_of_mem hx
        rw [hkeys] at h1
        obtain ⟨k, h2, h3⟩ := List.mem_map.1 h1
        obtain ⟨q, h4, rfl⟩ := List.mem_map.1 h2
        exact ⟨q.1, h3.symm, HK.out q h4⟩) hst.2.2 (by have := HFI.out.few; rw [← Array.length_toList, hlen]; omega))
    have HKEYS := Lib.hid hkeys
    have B2 := Lib.hid (show Below w.heap.size w ((w.alloc (.cells #[.string p] 9)).alloc (.cells #[.map (some m)] 57)) from HB1.out.alloc HB1.out.size _)
    have X2 := Lib.hid (HB.out.alloc (.cells #[.map (some m)] 57))
    have hcnt := HFI.out.few
    clear hst hbm hl hkeys HB
    go_wp2_with (go_at_call 43; refine KK.out.mono ?_; rintro e w' ⟨rfl, rfl⟩)
    refine KS.out.mono ?_
    rintro e w5 ⟨hb5, xs, hperm, hpw, hres⟩
    have B5 := Lib.hid (bt'' B2.out hb5)
    have X5 := Lib.hid (X2.out.below hb5 X2.out.lt)
    have hp : xs.Perm (Dk.keys d.files) := by
      rw [HKEYS.out] at hperm
      have hinj : Function.Injective Value.string := fun a b h => by injection h
      have := hperm.map (fun v : Value => match v with | .string s => s | _ => ByteArray.empty)
      simpa [Function.comp_def] using this
    have HL := Lib.hid (show Dk.Listed d.files p (xs.filter fun x : ByteArray => Lib.hasPrefix x.data.toList p.data.toList) from ⟨xs, hp, hpw, rfl⟩)
    have hxl : xs.length ≤ 2000 := by
      have := hp.length_eq
      have h2 : (Dk.keys d.files).length = d.files.length := by simp [Dk.keys]
      omega
    clear hperm hpw hp
    rcases hres with ⟨rfl, rfl⟩ | ⟨hne, gb, cap, cur, rfl, hge, hgb, h1, h2, h3⟩
    · have KD := Lib.hid (deleteNil_any w5 (.func (.func 46) #[] #[.pointer (some ⟨w.heap.size, 0, none⟩)]))
      clear hb5
      go_wp2_with (go_at_call 45; refine KD.out.mono ?_; rintro e w' ⟨rfl, rfl⟩)
      go_ret
      exact ⟨B5.out, none, 0, 0, [], rfl, Reads.nil, rfl, fun h => absurd (hon.symm.trans h) (by simp), fun _ => HL.out⟩
    · have hne0 : w.heap.size ≠ gb := fun e => by
        have := hge
        simp at this
        omega
      have KD := Lib.hid (delete_any w5 p w.heap.size gb cap cur xs (X5.out.cell 0) X5.out.lt hne0 hgb h1 h2 h3 (by omega))
      have hge' : w.heap.size ≤ gb := by
        have := hge
        simp at this
        omega
      clear hb5 hge hgb h3 hne0
      go_wp2_with (go_at_call 45; refine KD.out.mono ?_; rintro e w6 ⟨l, rfl, rfl, hst, hgr⟩)
      go_ret
      exact ⟨B5.out.grown hgr B5.out.size (fun j hj => by cases hj; exact hge'), _, _, _, _, rfl, hst, rfl, fun h => absurd (hon.symm.trans h) (by simp), fun _ => HL.out⟩
end
end Go.Proofs.YtlbdpcokddpjpaaGreatDoor

/- dest.File: what it does to a disk in memory. -/
namespace Go.Proofs.YtlbdpcokddpjpaaGreatDoor
set_option linter.unusedVariables false
open Go Go.RowKit Go.BigFrame
section
variable {g m : Nat} {d : Dk.Disk}
namespace Dk
def bes (x : ByteArray) : ByteArray := x ++ ⟨#[46, 116]⟩
def fstep (x y : ByteArray) (k : Nat) (d : Disk) : Int × Disk :=
  if k = 0 then create d (bes x) else if k = 1 then append d (bes x) y else if k = 2 then sync d (bes x) else rename d (bes x) x
def frun (x y : ByteArray) : Nat → Nat → Disk → Int × Disk
  | 0, _, d => (0, d)
  | n + 1, k, d => if (fstep x y k d).1 ≠ 0 then fstep x y k d else frun x y n (k + 1) (fstep x y k d).2
/-- What comes of writing bytes into a file of a name. -/
def file (d : Disk) (x y : ByteArray) : Int × Disk :=
  if (remove d (bes x)).1 ≠ 0 ∧ (remove d (bes x)).1 ≠ 22 then remove d (bes x) else frun x y 4 0 (remove d (bes x)).2
theorem bes_size (x : ByteArray) : (bes x).size = x.size + 2 := by unfold bes; rw [ByteArray.size_append]; rfl
theorem Fine.fstep {d : Disk} (h : Fine d) (x y : ByteArray) (k : Nat) : Fine (fstep x y k d).2 := by
  unfold Dk.fstep
  split
  · exact h.create _
  · split
    · exact h.append _ _
    · split
      · exact h.sync _
      · exact h.rename _ _
end Dk
set_option maxRecDepth 100000 in
set_option maxHeartbeats 1000000 in
theorem file1_any (W : World) (h : DiskAt W g m d) (hf : Dk.Fine d) (x : ByteArray) (hx : x.size ≤ 1000000) (b0 b1 : Nat) (h0 : W.cell? ⟨b0, 0, none⟩ = some (.pointer (some ⟨g, 0, none⟩))) (h1 : W.cell? ⟨b1, 0, none⟩ = some (.string x)) :
    Calls Tryz.prog 28 #[.pointer (some ⟨b0, 0, none⟩), .pointer (some ⟨b1, 0, none⟩)] W fun e W' => e = .returned (.int .i64 (Dk.create d (Dk.bes x)).1) ∧ DiskAt W' g m (Dk.create d (Dk.bes x)).2 ∧ Chg g m W W' := by
  have K := Lib.hid (create_any isName_any W g m d h hf (Dk.bes x) (by rw [Dk.bes_size]; omega))
  have hbs : (⟨#[46, 116]⟩ : ByteArray).size = 2 := rfl
  clear h hf
  go_enter Tryz.func28, Tryz.ntmps28
  go_wp2_with (go_at_call 29; refine K.out.mono ?_; rintro e w' ⟨rfl, hd, hc⟩)
  go_ret
  exact ⟨rfl, hd, hc⟩
set_option maxRecDepth 100000 in
set_option maxHeartbeats 1000000 in
theorem file2_any (W : World) (h : DiskAt W g m d) (hf : Dk.Fine d) (x y : ByteArray) (hx : x.size ≤ 1000000) (hy : y.size ≤ 1000000) (b0 b1 b2 : Nat) (h0 : W.cell? ⟨b0, 0, none⟩ = some (.pointer (some ⟨g, 0, none⟩))) (h1 : W.cell? ⟨b1, 0, none⟩ = some (.string x)) (h2 : W.cell? ⟨b2, 0, none⟩ = some (.string y)) :
    Calls Tryz.prog 30 #[.pointer (some ⟨b0, 0, none⟩), .pointer (some ⟨b1, 0, none⟩), .pointer (some ⟨b2, 0, none⟩)] W fun e W' => e = .returned (.int .i64 (Dk.append d (Dk.bes x) y).1) ∧ DiskAt W' g m (Dk.append d (Dk.bes x) y).2 ∧ Chg g m W W' := by
  have K := Lib.hid (append_any isName_any W g m d h hf (Dk.bes x) (by rw [Dk.bes_size]; omega) y (by omega))
  clear h hf
  go_enter Tryz.func30, Tryz.ntmps30
  go_wp2_with (go_at_call 31; refine K.out.mono ?_; rintro e w' ⟨rfl, hd, hc⟩)
  go_ret
  exact ⟨rfl, hd, hc⟩
set_option maxRecDepth 100000 in
set_option maxHeartbeats 1000000 in
theorem file3_any (W : World) (h : DiskAt W g m d) (hf : Dk.Fine d) (x : ByteArray) (hx : x.size ≤ 1000000) (b0 b1 : Nat) (h0 : W.cell? ⟨b0, 0, none⟩ = some (.pointer (some ⟨g, 0, none⟩))) (h1 : W.cell? ⟨b1, 0, none⟩ = some (.string x)) :
    Calls Tryz.prog 32 #[.pointer (some ⟨b0, 0, none⟩), .pointer (some ⟨b1, 0, none⟩)] W fun e W' => e = .returned (.int .i64 (Dk.sync d (Dk.bes x)).1) ∧ DiskAt W' g m (Dk.sync d (Dk.bes x)).2 ∧ Chg g m W W' := by
  have K := Lib.hid (sync_any isName_any W g m d h hf (Dk.bes x) (by rw [Dk.bes_size]; omega))
  clear h hf
  go_enter Tryz.func32, Tryz.ntmps32
  go_wp2_with (go_at_call 33; refine K.out.mono ?_; rintro e w' ⟨rfl, hd, hc⟩)
  go_ret
  exact ⟨rfl, hd, hc⟩
set_option maxRecDepth 100000 in
set_option maxHeartbeats 1000000 in
theorem file4_any (W : World) (h : DiskAt W g m d) (hf : Dk.Fine d) (x : ByteArray) (hx : x.size ≤ 1000000) (b0 b1 : Nat) (h0 : W.cell? ⟨b0, 0, none⟩ = some (.pointer (some ⟨g, 0, none⟩))) (h1 : W.cell? ⟨b1, 0, none⟩ = some (.string x)) :
    Calls Tryz.prog 34 #[.pointer (some ⟨b0, 0, none⟩), .pointer (some ⟨b1, 0, none⟩)] W fun e W' => e = .returned (.int .i64 (Dk.rename d (Dk.bes x) x).1) ∧ DiskAt W' g m (Dk.rename d (Dk.bes x) x).2 ∧ Chg g m W W' := by
  have K := Lib.hid (rename_any isName_any W g m d h hf (Dk.bes x) (by rw [Dk.bes_size]; omega) x (by omega))
  clear h hf
  go_enter Tryz.func34, Tryz.ntmps34
  go_wp2_with (go_at_call 35; refine K.out.mono ?_; rintro e w' ⟨rfl, hd, hc⟩)
  go_ret
  exact ⟨rfl, hd, hc⟩
end
end Go.Proofs.YtlbdpcokddpjpaaGreatDoor
